/- JournalPlays (Upto): any acts (Append, Sync, Crash, Cut) on a journal over a disk that held any bytes tell, act by act, what the document's journal tells. Conditions: the statement's own, no others. -/
-- Laid together by a program of this session (wip/tools/shake.py). Not trusted: Lean checks it.
import Derived.Test.YtmbnjgnmblgjoaaJp5
section
namespace Go.Proofs.Ytmbnjgnmblgjoaa.Man
open Go.RowKit Go.Proofs.YtmbnjgnmblgjoaaW.PrintWords Go.Proofs.YtmbnjgnmblgjoaaW.PrintLast Go.Proofs.YtmbnjgnmblgjoaaW.PrintMore
set_option linter.unusedVariables false
set_option linter.unusedSimpArgs false
set_option maxRecDepth 100000
attribute [local go_sem high] K.eqA111
set_option maxHeartbeats 4000000 in
theorem alike18_yes (w : World) (A B : Option Addr) (c d : Nat) (l : List K.S111) (hr : Kd.C K.k111 w A l.length l) (hr' : Kd.C K.k111 w B l.length l) :
 Calls Try.prog 158 #[.slice A l.length c, .slice B l.length d] w fun e w' => e = .returned (.bool true) ∧ Below w.heap.size w w' := by
 have hl : l.length ≤ 9223372036854775807 := hr.2.1
 have HR := Lib.hid hr
 have HR' := Lib.hid hr'
 clear hr hr'
 go_enter Try.func158, Try.ntmps158
 go_wp2
 go_loopg [5] l.length (fun g s5 wr => ∃ i m : Nat, s5 = .int .i64 i ∧ i ≤ l.length ∧ g = l.length - i ∧ wr = w.drewN m)
 case atStart => exact ⟨0, 0, rfl, Nat.zero_le _, rfl, rfl⟩
 case round =>
  obtain ⟨i, m, rfl, hi, hg, rfl⟩ := hrel
  by_cases hlt : i < l.length
  · obtain ⟨ad, e1, a0, a1, a2, a3⟩ := K.at_T111 HR.out (i : Int) (by omega) (by omega)
    obtain ⟨ad', e2, b0, b1, b2, b3⟩ := K.at_T111 HR'.out (i : Int) (by omega) (by omega)
    subst e1; subst e2
    rw [Int.toNat_natCast] at a0 a1 a2 a3 b0 b1 b2 b3
    generalize K.rd_T111 l i = x at a0 a1 a2 a3 b0 b1 b2 b3
    go_wp2
    go_quiet (fail)
    go_wp2
    go_roundg (l.length - (i + 1))
    case measure => omega
    case rel => exact ⟨i + 1, _, by go_num, by omega, rfl, rfl⟩
  · obtain rfl : i = l.length := by omega
    go_wp2
    go_ret
    exact ⟨rfl, pw_below_drewN (Below.refl _ _) m⟩
set_option maxHeartbeats 4000000 in
theorem twin18_yes (w : World) (A B : Option Addr) (c d : Nat) (x : K.S26) (hr : Kd.C K.k111 w A x.f2.f6.length x.f2.f6) (hr' : Kd.C K.k111 w B x.f2.f6.length x.f2.f6) :
 Calls Try.prog 136 #[stepV x A c, stepV x B d] w fun e w' => e = .returned (.bool true) ∧ Below w.heap.size w w' := by
 have HG := Lib.hid (fun (W : World) (hb : Below w.heap.size w W) => alike18_yes W A B c d x.f2.f6 (Kd.C_below hr hb) (Kd.C_below hr' hb))
 clear hr hr'
 unfold stepV
 go_enter Try.func136, Try.ntmps136
 go_wp2_with (go_at_call 158; refine (HG.out _ (((Below.refl _ _).alloc (Nat.le_refl _) _).alloc (by simp) _)).mono ?_; rintro e w1 ⟨rfl, hb⟩; have HB := Lib.hid hb; clear hb)
 go_ret
 exact ⟨rfl, (((Below.refl _ _).alloc (Nat.le_refl _) _).alloc (by simp) _).trans (HB.out.mono (by simp; omega))⟩
def ent18R6.T : Bool × List (List Nat × List Nat) := (true, [([], []), ([], []), ([0, 1], [0, 1]), ([2], [2]), ([3], [3]), ([], []), ([], []), ([5, 6], [5, 6]), ([7], [7]), ([8], [8]), ([4, 9], [4, 9]), ([10], [10]), ([11], [11]), ([11], [11]), ([12, 13, 11], [11, 12, 13]), ([14, 11], [11, 14]), ([15, 11], [11, 15]), ([11], [11]), ([11], [11]), ([17, 18, 11], [11, 17, 18]), ([19, 11], [11, 19]), ([20, 11], [11, 20]), ([16, 21, 11], [11, 16, 21]), ([11, 22], [11, 22]), ([23, 11], [23]), ([24], [24]), ([24], [24]), ([25, 26, 24], [24, 25, 26]), ([27, 24], [24, 27]), ([28, 24], [24, 28]), ([24], [24]), ([24], [24]), ([30, 31, 24], [24, 30, 31]), ([32, 24], [24, 32]), ([33, 24], [24, 33]), ([29, 34, 24, 24], [24, 29, 34]), ([35, 24], [24, 35]), ([24, 36], [24, 36])])
def ent18R6.B : List Nat := [0, 0, 3, 7, 15, 0, 0, 96, 224, 480, 1023, 2047, 4095, 4095, 16383, 32767, 65535, 4095, 4095, 397311, 921599, 1970175, 4194303, 8388607, 16777215, 33554431, 33554431, 134217727, 268435455, 536870911, 33554431, 33554431, 3254779903, 7549747199, 16139681791, 34359738367, 68719476735, 137438953471]
theorem ent18R6.tab : rtab .any (opsOf Try.f73 6) = ent18R6.T := by kernel_rfl
theorem ent18R6.bits : waitsOk ent18R6.T.2 ent18R6.B = true := by kernel_rfl
set_option maxHeartbeats 16000000 in
theorem entries18_yes (w : World) (A B : Option Addr) (c d : Nat) (l : List K.S26) (hr : Kd.C K.k26 w A l.length l) (hr' : Kd.C K.k26 w B l.length l) :
 Calls Try.prog 73 #[.slice A l.length c, .slice B l.length d] w fun e w' => e = .returned (.bool true) ∧ Below w.heap.size w w' := by
 have hl : l.length ≤ 9223372036854775807 := hr.2.1
 have HR := Lib.hid hr
 have HR' := Lib.hid hr'
 clear hr hr'
 go_enter Try.func73, Try.ntmps73
 go_wp2
 go_loopg [5] l.length (fun g s5 wr => ∃ i : Nat, s5 = .int .i64 i ∧ i ≤ l.length ∧ g = l.length - i ∧ Hid (Below w.heap.size w wr))
 case atStart => exact ⟨0, rfl, Nat.zero_le _, rfl, Lib.hid (Below.refl _ _)⟩
 case round =>
  obtain ⟨i, rfl, hi, hg, HB0⟩ := hrel
  by_cases hlt : i < l.length
  · have hb1 : Below w.heap.size w wr.drew := below_drew1 HB0.out
    obtain ⟨ad, A8, c8, e1, sa, _, ca⟩ := EC.at (Kd.C_below HR.out hb1) i hlt
    obtain ⟨bd, B8, d8, e2, sb, _, cb⟩ := EC.at (Kd.C_below HR'.out hb1) i hlt
    subst e1; subst e2
    generalize K.rd_T26 l i = x at sa sb ca cb
    have HCA := Lib.hid ca
    have HCB := Lib.hid cb
    have HB := Lib.hid hb1
    have hS := And.intro sa sb
    clear ca cb hb1 sa sb
    go_upto_region 6 with (fail)
    refine start_ (n := 38) (S := fun w' => EC w' (ad.add (i * 10)) x A8 c8 ∧ EC w' (bd.add (i * 10)) x B8 d8) (ds := []) #[false, false, false, false, false, false, false, false, false, false, false, false, false, false, false, false, false, false, false, false, false, false, false, false, false, false, false, false, false, false, false, false, false, false, false, false, false, false] (by kernel_rfl) rfl rfl hS (fun hHeld => ?_); refine with_tabW ent18R6.tab ent18R6.bits (fun HT_ HW_ => ?_)
    refine pure_ (i := 0) (N := (some 17)) (v := ?_) (a' := ?_) #[true, false, false, false, false, false, false, false, false, false, false, false, false, false, false, false, false, false, false, false, false, false, false, false, false, false, false, false, false, false, false, false, false, false, false, false, false, false] rfl rfl (any_of HT_.out (by kernel_rfl)) (fun _ _ _ h => h) (Or.inl ⟨by rfl, ?_⟩) ?_ ?_
    rotate_left
    · intro w'
      go_simp
      with_reducible rfl
    rotate_left
    · simp only [Act.put, sA_, sB_, sC_, i64_w, i32_w]
      rfl
    refine pure_ (i := 1) (N := (some 18)) (v := ?_) (a' := ?_) #[true, true, false, false, false, false, false, false, false, false, false, false, false, false, false, false, false, false, false, false, false, false, false, false, false, false, false, false, false, false, false, false, false, false, false, false, false, false] rfl rfl (any_of HT_.out (by kernel_rfl)) (fun _ _ _ h => h) (Or.inl ⟨by rfl, ?_⟩) ?_ ?_
    rotate_left
    · intro w'
      go_simp
      with_reducible rfl
    rotate_left
    · simp only [Act.put, sA_, sB_, sC_, i64_w, i32_w]
      rfl
    refine pure_ (i := 2) (N := (some 19)) (v := ?_) (a' := ?_) #[true, true, true, false, false, false, false, false, false, false, false, false, false, false, false, false, false, false, false, false, false, false, false, false, false, false, false, false, false, false, false, false, false, false, false, false, false, false] rfl rfl (any_of HT_.out (by kernel_rfl)) (fun _ _ _ h => h) (Or.inl ⟨by rfl, ?_⟩) ?_ ?_
    rotate_left
    · intro w'
      go_simp
      with_reducible rfl
    rotate_left
    · simp only [Act.put, sA_, sB_, sC_, i64_w, i32_w]
      rfl
    refine pure_ (i := 3) (N := (some 20)) (v := ?_) (a' := ?_) #[true, true, true, true, false, false, false, false, false, false, false, false, false, false, false, false, false, false, false, false, false, false, false, false, false, false, false, false, false, false, false, false, false, false, false, false, false, false] rfl rfl (any_of HT_.out (by kernel_rfl)) (fun _ _ _ h => h) (Or.inl ⟨by rfl, ?_⟩) ?_ ?_
    rotate_left
    · intro w'
      go_simp
      with_reducible rfl
    rotate_left
    · simp only [Act.put, sA_, sB_, sC_, i64_w, i32_w]
      rfl
    refine pure_ (i := 5) (N := (some 22)) (v := ?_) (a' := ?_) #[true, true, true, true, false, true, false, false, false, false, false, false, false, false, false, false, false, false, false, false, false, false, false, false, false, false, false, false, false, false, false, false, false, false, false, false, false, false] rfl rfl (any_of HT_.out (by kernel_rfl)) (fun _ _ _ h => h) (Or.inl ⟨by rfl, ?_⟩) ?_ ?_
    rotate_left
    · intro w'
      go_simp
      with_reducible rfl
    rotate_left
    · simp only [Act.put, sA_, sB_, sC_, i64_w, i32_w]
      rfl
    refine pure_ (i := 6) (N := (some 23)) (v := ?_) (a' := ?_) #[true, true, true, true, false, true, true, false, false, false, false, false, false, false, false, false, false, false, false, false, false, false, false, false, false, false, false, false, false, false, false, false, false, false, false, false, false, false] rfl rfl (any_of HT_.out (by kernel_rfl)) (fun _ _ _ h => h) (Or.inl ⟨by rfl, ?_⟩) ?_ ?_
    rotate_left
    · intro w'
      go_simp
      with_reducible rfl
    rotate_left
    · simp only [Act.put, sA_, sB_, sC_, i64_w, i32_w]
      rfl
    refine pure_ (i := 7) (N := (some 24)) (v := ?_) (a' := ?_) #[true, true, true, true, false, true, true, true, false, false, false, false, false, false, false, false, false, false, false, false, false, false, false, false, false, false, false, false, false, false, false, false, false, false, false, false, false, false] rfl rfl (any_of HT_.out (by kernel_rfl)) (fun _ _ _ h => h) (Or.inl ⟨by rfl, ?_⟩) ?_ ?_
    rotate_left
    · intro w'
      go_simp
      with_reducible rfl
    rotate_left
    · simp only [Act.put, sA_, sB_, sC_, i64_w, i32_w]
      rfl
    refine pure_ (i := 8) (N := (some 25)) (v := ?_) (a' := ?_) #[true, true, true, true, false, true, true, true, true, false, false, false, false, false, false, false, false, false, false, false, false, false, false, false, false, false, false, false, false, false, false, false, false, false, false, false, false, false] rfl rfl (any_of HT_.out (by kernel_rfl)) (fun _ _ _ h => h) (Or.inl ⟨by rfl, ?_⟩) ?_ ?_
    rotate_left
    · intro w'
      go_simp
      with_reducible rfl
    rotate_left
    · simp only [Act.put, sA_, sB_, sC_, i64_w, i32_w]
      rfl
    refine take_ (i := 4) (N := (some 21)) (v := ?_) (a' := ?_) #[true, true, true, true, true, true, true, true, true, false, false, false, false, false, false, false, false, false, false, false, false, false, false, false, false, false, false, false, false, false, false, false, false, false, false, false, false, false] rfl rfl (take_ofW HT_.out HW_.out (by kernel_rfl)) (fun _ _ _ h => h) (Or.inl ⟨by rfl, ?_⟩) hHeld ?_ ?_
    rotate_left
    · rintro w' ⟨⟨s0, s1, s2, s3, s4, s5, s6, s7, s8, s9⟩, ⟨u0, u1, u2, u3, u4, u5, u6, u7, u8, u9⟩⟩
      go_simp
      with_reducible rfl
    rotate_left
    · simp only [Act.put, sA_, sB_, sC_, i64_w, i32_w]
      rfl
    refine take_ (i := 9) (N := (some 26)) (v := ?_) (a' := ?_) #[true, true, true, true, true, true, true, true, true, true, false, false, false, false, false, false, false, false, false, false, false, false, false, false, false, false, false, false, false, false, false, false, false, false, false, false, false, false] rfl rfl (take_ofW HT_.out HW_.out (by kernel_rfl)) (fun _ _ _ h => h) (Or.inl ⟨by rfl, ?_⟩) hHeld ?_ ?_
    rotate_left
    · rintro w' ⟨⟨s0, s1, s2, s3, s4, s5, s6, s7, s8, s9⟩, ⟨u0, u1, u2, u3, u4, u5, u6, u7, u8, u9⟩⟩
      go_simp
      with_reducible rfl
    rotate_left
    · simp only [Act.put, sA_, sB_, sC_, i64_w, i32_w]
      rfl
    refine pure_ (i := 10) (N := (some 27)) (v := ?_) (a' := ?_) #[true, true, true, true, true, true, true, true, true, true, true, false, false, false, false, false, false, false, false, false, false, false, false, false, false, false, false, false, false, false, false, false, false, false, false, false, false, false] rfl rfl (any_of HT_.out (by kernel_rfl)) (fun _ _ _ h => h) (Or.inl ⟨by rfl, ?_⟩) ?_ ?_
    rotate_left
    · intro w'
      go_simp
      with_reducible rfl
    rotate_left
    · simp only [Act.put, sA_, sB_, sC_, i64_w, i32_w]
      rfl
    refine pure_ (i := 11) (N := (some 28)) (v := ?_) (a' := ?_) #[true, true, true, true, true, true, true, true, true, true, true, true, false, false, false, false, false, false, false, false, false, false, false, false, false, false, false, false, false, false, false, false, false, false, false, false, false, false] rfl rfl (any_of HT_.out (by kernel_rfl)) (fun _ _ _ h => h) (Or.inl ⟨by rfl, ?_⟩) ?_ ?_
    rotate_left
    · intro w'
      go_simp
      with_reducible rfl
    rotate_left
    · simp only [Act.put, sA_, sB_, sC_, i64_w, i32_w]
      rfl
    refine pure_ (i := 12) (N := (some 29)) (v := ?_) (a' := ?_) #[true, true, true, true, true, true, true, true, true, true, true, true, true, false, false, false, false, false, false, false, false, false, false, false, false, false, false, false, false, false, false, false, false, false, false, false, false, false] rfl rfl (any_of HT_.out (by kernel_rfl)) (fun _ _ _ h => h) (Or.inl ⟨by rfl, ?_⟩) ?_ ?_
    rotate_left
    · intro w'
      go_simp
      with_reducible rfl
    rotate_left
    · simp only [Act.put, sA_, sB_, sC_, i64_w, i32_w]
      rfl
    refine pure_ (i := 13) (N := (some 30)) (v := ?_) (a' := ?_) #[true, true, true, true, true, true, true, true, true, true, true, true, true, true, false, false, false, false, false, false, false, false, false, false, false, false, false, false, false, false, false, false, false, false, false, false, false, false] rfl rfl (any_of HT_.out (by kernel_rfl)) (fun _ _ _ h => h) (Or.inl ⟨by rfl, ?_⟩) ?_ ?_
    rotate_left
    · intro w'
      go_simp
      with_reducible rfl
    rotate_left
    · simp only [Act.put, sA_, sB_, sC_, i64_w, i32_w]
      rfl
    refine pure_ (i := 14) (N := (some 31)) (v := ?_) (a' := ?_) #[true, true, true, true, true, true, true, true, true, true, true, true, true, true, true, false, false, false, false, false, false, false, false, false, false, false, false, false, false, false, false, false, false, false, false, false, false, false] rfl rfl (any_of HT_.out (by kernel_rfl)) (fun _ _ _ h => h) (Or.inl ⟨by rfl, ?_⟩) ?_ ?_
    rotate_left
    · intro w'
      go_simp
      with_reducible rfl
    rotate_left
    · simp only [Act.put, sA_, sB_, sC_, i64_w, i32_w]
      rfl
    refine pure_ (i := 15) (N := (some 32)) (v := ?_) (a' := ?_) #[true, true, true, true, true, true, true, true, true, true, true, true, true, true, true, true, false, false, false, false, false, false, false, false, false, false, false, false, false, false, false, false, false, false, false, false, false, false] rfl rfl (any_of HT_.out (by kernel_rfl)) (fun _ _ _ h => h) (Or.inl ⟨by rfl, ?_⟩) ?_ ?_
    rotate_left
    · intro w'
      go_simp
      with_reducible rfl
    rotate_left
    · simp only [Act.put, sA_, sB_, sC_, i64_w, i32_w]
      rfl
    refine pure_ (i := 17) (N := (some 34)) (v := ?_) (a' := ?_) #[true, true, true, true, true, true, true, true, true, true, true, true, true, true, true, true, false, true, false, false, false, false, false, false, false, false, false, false, false, false, false, false, false, false, false, false, false, false] rfl rfl (any_of HT_.out (by kernel_rfl)) (fun _ _ _ h => h) (Or.inl ⟨by rfl, ?_⟩) ?_ ?_
    rotate_left
    · intro w'
      go_simp
      with_reducible rfl
    rotate_left
    · simp only [Act.put, sA_, sB_, sC_, i64_w, i32_w]
      rfl
    refine pure_ (i := 18) (N := (some 35)) (v := ?_) (a' := ?_) #[true, true, true, true, true, true, true, true, true, true, true, true, true, true, true, true, false, true, true, false, false, false, false, false, false, false, false, false, false, false, false, false, false, false, false, false, false, false] rfl rfl (any_of HT_.out (by kernel_rfl)) (fun _ _ _ h => h) (Or.inl ⟨by rfl, ?_⟩) ?_ ?_
    rotate_left
    · intro w'
      go_simp
      with_reducible rfl
    rotate_left
    · simp only [Act.put, sA_, sB_, sC_, i64_w, i32_w]
      rfl
    refine pure_ (i := 19) (N := (some 36)) (v := ?_) (a' := ?_) #[true, true, true, true, true, true, true, true, true, true, true, true, true, true, true, true, false, true, true, true, false, false, false, false, false, false, false, false, false, false, false, false, false, false, false, false, false, false] rfl rfl (any_of HT_.out (by kernel_rfl)) (fun _ _ _ h => h) (Or.inl ⟨by rfl, ?_⟩) ?_ ?_
    rotate_left
    · intro w'
      go_simp
      with_reducible rfl
    rotate_left
    · simp only [Act.put, sA_, sB_, sC_, i64_w, i32_w]
      rfl
    refine pure_ (i := 20) (N := (some 37)) (v := ?_) (a' := ?_) #[true, true, true, true, true, true, true, true, true, true, true, true, true, true, true, true, false, true, true, true, true, false, false, false, false, false, false, false, false, false, false, false, false, false, false, false, false, false] rfl rfl (any_of HT_.out (by kernel_rfl)) (fun _ _ _ h => h) (Or.inl ⟨by rfl, ?_⟩) ?_ ?_
    rotate_left
    · intro w'
      go_simp
      with_reducible rfl
    rotate_left
    · simp only [Act.put, sA_, sB_, sC_, i64_w, i32_w]
      rfl
    refine take_ (i := 16) (N := (some 33)) (v := ?_) (a' := ?_) #[true, true, true, true, true, true, true, true, true, true, true, true, true, true, true, true, true, true, true, true, true, false, false, false, false, false, false, false, false, false, false, false, false, false, false, false, false, false] rfl rfl (take_ofW HT_.out HW_.out (by kernel_rfl)) (fun _ _ _ h => h) (Or.inl ⟨by rfl, ?_⟩) hHeld ?_ ?_
    rotate_left
    · rintro w' ⟨⟨s0, s1, s2, s3, s4, s5, s6, s7, s8, s9⟩, ⟨u0, u1, u2, u3, u4, u5, u6, u7, u8, u9⟩⟩
      go_simp
      with_reducible rfl
    rotate_left
    · simp only [Act.put, sA_, sB_, sC_, i64_w, i32_w]
      rfl
    refine take_ (i := 21) (N := (some 38)) (v := ?_) (a' := ?_) #[true, true, true, true, true, true, true, true, true, true, true, true, true, true, true, true, true, true, true, true, true, true, false, false, false, false, false, false, false, false, false, false, false, false, false, false, false, false] rfl rfl (take_ofW HT_.out HW_.out (by kernel_rfl)) (fun _ _ _ h => h) (Or.inl ⟨by rfl, ?_⟩) hHeld ?_ ?_
    rotate_left
    · rintro w' ⟨⟨s0, s1, s2, s3, s4, s5, s6, s7, s8, s9⟩, ⟨u0, u1, u2, u3, u4, u5, u6, u7, u8, u9⟩⟩
      go_simp
      with_reducible rfl
    rotate_left
    · simp only [Act.put, sA_, sB_, sC_, i64_w, i32_w]
      rfl
    refine pure_ (i := 22) (N := (some 39)) (v := ?_) (a' := ?_) #[true, true, true, true, true, true, true, true, true, true, true, true, true, true, true, true, true, true, true, true, true, true, true, false, false, false, false, false, false, false, false, false, false, false, false, false, false, false] rfl rfl (any_of HT_.out (by kernel_rfl)) (fun _ _ _ h => h) (Or.inl ⟨by rfl, ?_⟩) ?_ ?_
    rotate_left
    · intro w'
      go_simp
      with_reducible rfl
    rotate_left
    · simp only [Act.put, sA_, sB_, sC_, i64_w, i32_w]
      rfl
    refine pure_ (i := 23) (N := (some 40)) (v := ?_) (a' := ?_) #[true, true, true, true, true, true, true, true, true, true, true, true, true, true, true, true, true, true, true, true, true, true, true, true, false, false, false, false, false, false, false, false, false, false, false, false, false, false] rfl rfl (any_of HT_.out (by kernel_rfl)) (fun _ _ _ h => h) (Or.inl ⟨by rfl, ?_⟩) ?_ ?_
    rotate_left
    · intro w'
      go_simp
      with_reducible rfl
    rotate_left
    · simp only [Act.put, sA_, sB_, sC_, i64_w, i32_w]
      rfl
    refine pure_ (i := 24) (N := (some 41)) (v := ?_) (a' := ?_) #[true, true, true, true, true, true, true, true, true, true, true, true, true, true, true, true, true, true, true, true, true, true, true, true, true, false, false, false, false, false, false, false, false, false, false, false, false, false] rfl rfl (any_of HT_.out (by kernel_rfl)) (fun _ _ _ h => h) (Or.inl ⟨by rfl, ?_⟩) ?_ ?_
    rotate_left
    · intro w'
      go_simp
      with_reducible rfl
    rotate_left
    · simp only [Act.put, sA_, sB_, sC_, i64_w, i32_w]
      rfl
    refine pure_ (i := 25) (N := (some 42)) (v := ?_) (a' := ?_) #[true, true, true, true, true, true, true, true, true, true, true, true, true, true, true, true, true, true, true, true, true, true, true, true, true, true, false, false, false, false, false, false, false, false, false, false, false, false] rfl rfl (any_of HT_.out (by kernel_rfl)) (fun _ _ _ h => h) (Or.inl ⟨by rfl, ?_⟩) ?_ ?_
    rotate_left
    · intro w'
      go_simp
      with_reducible rfl
    rotate_left
    · simp only [Act.put, sA_, sB_, sC_, i64_w, i32_w]
      rfl
    refine pure_ (i := 26) (N := (some 43)) (v := ?_) (a' := ?_) #[true, true, true, true, true, true, true, true, true, true, true, true, true, true, true, true, true, true, true, true, true, true, true, true, true, true, true, false, false, false, false, false, false, false, false, false, false, false] rfl rfl (any_of HT_.out (by kernel_rfl)) (fun _ _ _ h => h) (Or.inl ⟨by rfl, ?_⟩) ?_ ?_
    rotate_left
    · intro w'
      go_simp
      with_reducible rfl
    rotate_left
    · simp only [Act.put, sA_, sB_, sC_, i64_w, i32_w]
      rfl
    refine pure_ (i := 27) (N := (some 44)) (v := ?_) (a' := ?_) #[true, true, true, true, true, true, true, true, true, true, true, true, true, true, true, true, true, true, true, true, true, true, true, true, true, true, true, true, false, false, false, false, false, false, false, false, false, false] rfl rfl (any_of HT_.out (by kernel_rfl)) (fun _ _ _ h => h) (Or.inl ⟨by rfl, ?_⟩) ?_ ?_
    rotate_left
    · intro w'
      go_simp
      with_reducible rfl
    rotate_left
    · simp only [Act.put, sA_, sB_, sC_, i64_w, i32_w]
      rfl
    refine pure_ (i := 28) (N := (some 45)) (v := ?_) (a' := ?_) #[true, true, true, true, true, true, true, true, true, true, true, true, true, true, true, true, true, true, true, true, true, true, true, true, true, true, true, true, true, false, false, false, false, false, false, false, false, false] rfl rfl (any_of HT_.out (by kernel_rfl)) (fun _ _ _ h => h) (Or.inl ⟨by rfl, ?_⟩) ?_ ?_
    rotate_left
    · intro w'
      go_simp
      with_reducible rfl
    rotate_left
    · simp only [Act.put, sA_, sB_, sC_, i64_w, i32_w]
      rfl
    refine pure_ (i := 30) (N := (some 47)) (v := ?_) (a' := ?_) #[true, true, true, true, true, true, true, true, true, true, true, true, true, true, true, true, true, true, true, true, true, true, true, true, true, true, true, true, true, false, true, false, false, false, false, false, false, false] rfl rfl (any_of HT_.out (by kernel_rfl)) (fun _ _ _ h => h) (Or.inl ⟨by rfl, ?_⟩) ?_ ?_
    rotate_left
    · intro w'
      go_simp
      with_reducible rfl
    rotate_left
    · simp only [Act.put, sA_, sB_, sC_, i64_w, i32_w]
      rfl
    refine pure_ (i := 31) (N := (some 48)) (v := ?_) (a' := ?_) #[true, true, true, true, true, true, true, true, true, true, true, true, true, true, true, true, true, true, true, true, true, true, true, true, true, true, true, true, true, false, true, true, false, false, false, false, false, false] rfl rfl (any_of HT_.out (by kernel_rfl)) (fun _ _ _ h => h) (Or.inl ⟨by rfl, ?_⟩) ?_ ?_
    rotate_left
    · intro w'
      go_simp
      with_reducible rfl
    rotate_left
    · simp only [Act.put, sA_, sB_, sC_, i64_w, i32_w]
      rfl
    refine pure_ (i := 32) (N := (some 49)) (v := ?_) (a' := ?_) #[true, true, true, true, true, true, true, true, true, true, true, true, true, true, true, true, true, true, true, true, true, true, true, true, true, true, true, true, true, false, true, true, true, false, false, false, false, false] rfl rfl (any_of HT_.out (by kernel_rfl)) (fun _ _ _ h => h) (Or.inl ⟨by rfl, ?_⟩) ?_ ?_
    rotate_left
    · intro w'
      go_simp
      with_reducible rfl
    rotate_left
    · simp only [Act.put, sA_, sB_, sC_, i64_w, i32_w]
      rfl
    refine pure_ (i := 33) (N := (some 50)) (v := ?_) (a' := ?_) #[true, true, true, true, true, true, true, true, true, true, true, true, true, true, true, true, true, true, true, true, true, true, true, true, true, true, true, true, true, false, true, true, true, true, false, false, false, false] rfl rfl (any_of HT_.out (by kernel_rfl)) (fun _ _ _ h => h) (Or.inl ⟨by rfl, ?_⟩) ?_ ?_
    rotate_left
    · intro w'
      go_simp
      with_reducible rfl
    rotate_left
    · simp only [Act.put, sA_, sB_, sC_, i64_w, i32_w]
      rfl
    refine take_ (i := 29) (N := (some 46)) (v := ?_) (a' := ?_) #[true, true, true, true, true, true, true, true, true, true, true, true, true, true, true, true, true, true, true, true, true, true, true, true, true, true, true, true, true, true, true, true, true, true, false, false, false, false] rfl rfl (take_ofW HT_.out HW_.out (by kernel_rfl)) (fun _ _ _ h => h) (Or.inl ⟨by rfl, ?_⟩) hHeld ?_ ?_
    rotate_left
    · rintro w' ⟨⟨s0, s1, s2, s3, s4, s5, s6, s7, s8, s9⟩, ⟨u0, u1, u2, u3, u4, u5, u6, u7, u8, u9⟩⟩
      go_simp
      with_reducible rfl
    rotate_left
    · simp only [Act.put, sA_, sB_, sC_, i64_w, i32_w]
      rfl
    refine take_ (i := 34) (N := (some 51)) (v := ?_) (a' := ?_) #[true, true, true, true, true, true, true, true, true, true, true, true, true, true, true, true, true, true, true, true, true, true, true, true, true, true, true, true, true, true, true, true, true, true, true, false, false, false] rfl rfl (take_ofW HT_.out HW_.out (by kernel_rfl)) (fun _ _ _ h => h) (Or.inl ⟨by rfl, ?_⟩) hHeld ?_ ?_
    rotate_left
    · rintro w' ⟨⟨s0, s1, s2, s3, s4, s5, s6, s7, s8, s9⟩, ⟨u0, u1, u2, u3, u4, u5, u6, u7, u8, u9⟩⟩
      go_simp
      with_reducible rfl
    rotate_left
    · simp only [Act.put, sA_, sB_, sC_, i64_w, i32_w]
      rfl
    refine one_ (i := 35) (N := (some 52)) #[true, true, true, true, true, true, true, true, true, true, true, true, true, true, true, true, true, true, true, true, true, true, true, true, true, true, true, true, true, true, true, true, true, true, true, true, false, false] rfl rfl (one_of HT_.out (by kernel_rfl)) (by decide) (fun K hK => ?_)
    refine goes_ Try.func136 (by kernel_rfl) rfl #[stepV x A8 c8, stepV x B8 d8] (by rfl) rfl rfl (by (try simp only [List.map_toArray, List.map_cons, List.map_nil]); first | done | rfl) ?_
    refine (twin18_yes _ A8 B8 c8 d8 x HCA.out HCB.out).mono ?_
    rintro e w3 ⟨rfl, hb⟩
    have HB3 := Lib.hid (HB.out.trans (hb.mono HB.out.size))
    have hs3 := And.intro (hS.1.below hb) (hS.2.below hb)
    clear hb
    refine ⟨_, rfl, ?_⟩
    refine hK.out _ _ hs3 (fun hHeld => ?_)
    clear hK K
    refine norm_ (a' := ?_) ?_ ?_
    rotate_left
    · show Act.put _ (some 52) _ = _
      simp only [Act.put, sA_, sB_, sC_, i64_w, i32_w]
      rfl
    refine pure_ (i := 36) (N := (some 53)) (v := ?_) (a' := ?_) #[true, true, true, true, true, true, true, true, true, true, true, true, true, true, true, true, true, true, true, true, true, true, true, true, true, true, true, true, true, true, true, true, true, true, true, true, true, false] rfl rfl (any_of HT_.out (by kernel_rfl)) (fun _ _ _ h => h) (Or.inl ⟨by rfl, ?_⟩) ?_ ?_
    rotate_left
    · intro w'
      go_simp
      with_reducible rfl
    rotate_left
    · simp only [Act.put, sA_, sB_, sC_, i64_w, i32_w]
      rfl
    refine pure_ (i := 37) (N := (some 54)) (v := ?_) (a' := ?_) #[true, true, true, true, true, true, true, true, true, true, true, true, true, true, true, true, true, true, true, true, true, true, true, true, true, true, true, true, true, true, true, true, true, true, true, true, true, true] rfl rfl (any_of HT_.out (by kernel_rfl)) (fun _ _ _ h => h) (Or.inl ⟨by rfl, ?_⟩) ?_ ?_
    rotate_left
    · intro w'
      go_simp
      with_reducible rfl
    rotate_left
    · simp only [Act.put, sA_, sB_, sC_, i64_w, i32_w]
      rfl
    refine done_ (done_of HT_.out (by kernel_rfl)) ?_
    clear hS HCA HCB
    go_wp2
    go_roundg (l.length - (i + 1))
    case measure => omega
    case rel => exact ⟨i + 1, by go_num, by omega, rfl, HB3⟩
  · obtain rfl : i = l.length := by omega
    go_wp2
    go_ret
    exact ⟨rfl, HB0.out⟩
end Go.Proofs.Ytmbnjgnmblgjoaa.Man
end
section
namespace Go.Proofs.Ytmbnjgnmblgjoaa.Man
open Go.RowKit Go.Shelf Go.Proofs.YtmbnjgnmblgjoaaW.PrintWords Go.Proofs.YtmbnjgnmblgjoaaW.PrintLast Go.Proofs.YtmbnjgnmblgjoaaW.PrintMore
set_option linter.unusedVariables false
set_option linter.unusedSimpArgs false
set_option maxRecDepth 100000
theorem sum1_len (l : List K.S26) : l.length ≤ Open.sum1 (fun x : K.S26 => x.f2.f6.length + 1) l := by
 induction l with
 | nil => exact Nat.zero_le _
 | cons x l ih => rw [Open.sum1, List.length_cons]; omega
end Go.Proofs.Ytmbnjgnmblgjoaa.Man
end
section
namespace Go.Proofs.Ytmbnjgnmblgjoaa.Man
open Go.RowKit Go.Shelf Go.Proofs.YtmbnjgnmblgjoaaW.PrintWords Go.Proofs.YtmbnjgnmblgjoaaW.PrintLast Go.Proofs.YtmbnjgnmblgjoaaW.PrintMore
set_option linter.unusedVariables false
set_option linter.unusedSimpArgs false
set_option maxRecDepth 100000
section
variable {w w1 : World} {base J D J' D' : Nat} {vE v uE u v' u' vE' uE' : Value} {es b es' b' es2 b2 : List Int} {s m s' m' s2 m2 : Int}
theorem cells_ne {w : World} {k k' : Nat} {cs cs' : Array Value} {t t' : TypeId} {x x' : Nat × Nat} (h : w.heap[k]? = some (.cells cs t x)) (h' : w.heap[k']? = some (.cells cs' t' x')) (hne : t ≠ t') : k ≠ k' := fun e => by
 subst e
 rw [h] at h'
 cases h'
 exact hne rfl
theorem JStep.apart (st : JStep w w1 J D v v' vE vE') (h : Apart v u) {xs : List Int} (hu : DRow w base u xs) : Apart v' u := fun i hv hub => by
 rcases st.row with e | ⟨j, e, hj⟩
 · exact h i (by rw [← e]; exact hv) hub
 · rw [e] at hv
   cases hv
   have := (hu.block hub).2.1
   omega
structure JJ (w : World) (base J D : Nat) (vE v : Value) (es b : List Int) (s m : Int) (J' D' : Nat) (uE u : Value) (es' b' : List Int) (s' m' : Int) : Prop where
 one : JS w base J D vE v es b s m
 two : JS w base J' D' uE u es' b' s' m'
 nj : J ≠ J'
 nd : D ≠ D'
 ap : Apart v u
end
end Go.Proofs.Ytmbnjgnmblgjoaa.Man
end
section
namespace Go.Proofs.Ytmbnjgnmblgjoaa.Man
open Go.RowKit Go.Shelf Go.Proofs.YtmbnjgnmblgjoaaW.PrintWords Go.Proofs.YtmbnjgnmblgjoaaW.PrintLast Go.Proofs.YtmbnjgnmblgjoaaW.PrintMore
set_option linter.unusedVariables false
set_option linter.unusedSimpArgs false
set_option maxRecDepth 100000
section
variable {w w1 : World} {base J D J' D' : Nat} {vE v uE u v' u' vE' uE' : Value} {es b es' b' es2 b2 : List Int} {s m s' m' s2 m2 : Int}
theorem own_ne {w : World} {base i : Nat} {u : Value} {xs : List Int} {cs : Array Value} {t : TypeId} (h : DRow w base u xs) (hi : w.heap[i]? = some (.cells cs t (0, 0))) (ht : t ≠ 5) : some i ≠ u.ownBlock := fun e => by
 obtain ⟨_, _, cur, hc⟩ := h.block e.symm
 rw [hi] at hc
 cases hc
 exact ht rfl
theorem JS.otherR (h : JS w base J D vE v es b s m) (k : RJS w base J' D' uE u es' b' s' m') (st : JStep w w1 J' D' u u' uE uE') (ha : Apart v u) : JS w1 base J D vE v es b s m := by
 refine h.move ?_ ?_ ?_
 · exact st.block _ h.lt (cells_ne (show w.heap[J]? = _ from h.jat) (show w.heap[J']? = _ from k.jat) (by decide)) (cells_ne (show w.heap[J]? = _ from h.jat) (show w.heap[D']? = _ from k.disk.cells) (by decide)) (own_ne k.disk.row (show w.heap[J]? = _ from h.jat) (by decide))
 · intro i hi
   obtain ⟨_, cs, hc⟩ := h.typ i hi
   exact st.block _ (h.elt i hi) (cells_ne hc (show w.heap[J']? = _ from k.jat) (by decide)) (cells_ne hc (show w.heap[D']? = _ from k.disk.cells) (by decide)) (own_ne k.disk.row hc (by decide))
 · refine { h.disk with cells := h.disk.cells.move (st.block _ h.disk.cells.lt (cells_ne (show w.heap[D]? = _ from h.disk.cells) (show w.heap[J']? = _ from k.jat) (by decide)) (cells_ne (show w.heap[D]? = _ from h.disk.cells) (show w.heap[D']? = _ from k.disk.cells) (by decide)) (own_ne k.disk.row (show w.heap[D]? = _ from h.disk.cells) (by decide))), row := h.disk.row.move fun i hi => ?_ }
   obtain ⟨_, hlt, cur, hc⟩ := h.disk.row.block hi
   exact st.block _ hlt (cells_ne hc (show w.heap[J']? = _ from k.jat) (by decide)) (cells_ne hc (show w.heap[D']? = _ from k.disk.cells) (by decide)) (fun e => ha i hi e.symm)
theorem RJS.otherJ (h : RJS w base J D vE v es b s m) (k : JS w base J' D' uE u es' b' s' m') (st : JStep w w1 J' D' u u' uE uE') (ha : Apart v u) : RJS w1 base J D vE v es b s m := by
 refine h.move ?_ ?_ ?_
 · exact st.block _ h.lt (cells_ne (show w.heap[J]? = _ from h.jat) (show w.heap[J']? = _ from k.jat) (by decide)) (cells_ne (show w.heap[J]? = _ from h.jat) (show w.heap[D']? = _ from k.disk.cells) (by decide)) (own_ne k.disk.row (show w.heap[J]? = _ from h.jat) (by decide))
 · intro i hi
   obtain ⟨_, cs, hc⟩ := h.typ i hi
   exact st.block _ (h.elt i hi) (cells_ne hc (show w.heap[J']? = _ from k.jat) (by decide)) (cells_ne hc (show w.heap[D']? = _ from k.disk.cells) (by decide)) (own_ne k.disk.row hc (by decide))
 · refine { h.disk with cells := h.disk.cells.move (st.block _ h.disk.cells.lt (cells_ne (show w.heap[D]? = _ from h.disk.cells) (show w.heap[J']? = _ from k.jat) (by decide)) (cells_ne (show w.heap[D]? = _ from h.disk.cells) (show w.heap[D']? = _ from k.disk.cells) (by decide)) (own_ne k.disk.row (show w.heap[D]? = _ from h.disk.cells) (by decide))), row := h.disk.row.move fun i hi => ?_ }
   obtain ⟨_, hlt, cur, hc⟩ := h.disk.row.block hi
   exact st.block _ hlt (cells_ne hc (show w.heap[J']? = _ from k.jat) (by decide)) (cells_ne hc (show w.heap[D']? = _ from k.disk.cells) (by decide)) (fun e => ha i hi e.symm)
structure JP (w : World) (base J D : Nat) (vE v : Value) (J' D' : Nat) (uE u : Value) (es b : List Int) (s m : Int) : Prop where
 one : JS w base J D vE v es b s m
 two : RJS w base J' D' uE u es b s m
 ap : Apart v u
theorem JP.below {n : Nat} (h : JP w base J D vE v J' D' uE u es b s m) (hb : Below n w w1) (hn : w.heap.size ≤ n) : JP w1 base J D vE v J' D' uE u es b s m := ⟨h.one.below hb hn, h.two.below hb hn, h.ap⟩
theorem JP.acted {w2 : World} (h : JP w base J D vE v J' D' uE u es b s m) (h1 : JS w1 base J D vE' v' es2 b2 s2 m2) (st : JStep w w1 J D v v' vE vE') (h2 : RJS w2 base J' D' uE' u' es2 b2 s2 m2) (st2 : JStep w1 w2 J' D' u u' uE uE') : JP w2 base J D vE' v' J' D' uE' u' es2 b2 s2 m2 ∧ Below base w w2 := by
 have r1 := h.two.otherJ h.one st h.ap.symm
 have a1 := st.apart h.ap h.two.disk.row
 exact ⟨⟨h1.otherR r1 st2 a1, h2, (st2.apart a1.symm h1.disk.row).symm⟩, (st.belowJ h.one).trans (st2.belowRJ r1)⟩
theorem JP.acted' {w2 : World} (h : JP w base J D vE v J' D' uE u es b s m) (h2 : RJS w1 base J' D' uE' u' es2 b2 s2 m2) (st2 : JStep w w1 J' D' u u' uE uE') (h1 : JS w2 base J D vE' v' es2 b2 s2 m2) (st : JStep w1 w2 J D v v' vE vE') : JP w2 base J D vE' v' J' D' uE' u' es2 b2 s2 m2 ∧ Below base w w2 := by
 have r1 := h.one.otherR h.two st2 h.ap
 have a1 := st2.apart h.ap.symm h.one.disk.row
 exact ⟨⟨h1, h2.otherJ r1 st a1, st.apart a1.symm h2.disk.row⟩, (st2.belowRJ h.two).trans (st.belowJ r1)⟩
theorem JP.crashed {w2 : World} {J1 J2 : Nat} (h : JP w base J D vE v J' D' uE u es b s m) (h1 : JS w1 base J1 D vE' v' es2 b2 s2 m2) (st : DStep w w1 D v v') (h2 : RJS w2 base J2 D' uE' u' es2 b2 s2 m2) (st2 : DStep w1 w2 D' u u') : JP w2 base J1 D vE' v' J2 D' uE' u' es2 b2 s2 m2 ∧ Below base w w2 := by
 have r1 := h.two.otherJ h.one (JStep.of_disk J vE st) h.ap.symm
 have a1 := st.apart h.ap h.two.disk.row
 exact ⟨⟨h1.otherR r1 (JStep.of_disk J' uE st2) a1, h2, (st2.apart a1.symm h1.disk.row).symm⟩, (st.below h.one.disk).trans (st2.belowR r1.disk)⟩
end
end Go.Proofs.Ytmbnjgnmblgjoaa.Man
end
section
namespace Go.Proofs.Ytmbnjgnmblgjoaa.Man
open Go.RowKit Go.Proofs.YtmbnjgnmblgjoaaW.PrintWords Go.Proofs.YtmbnjgnmblgjoaaW.PrintLast Go.Proofs.YtmbnjgnmblgjoaaW.PrintMore
set_option linter.unusedVariables false
set_option linter.unusedSimpArgs false
theorem app_log (m : Int) (xs l : List K.S26) (hf : ∀ x ∈ xs, Fine x) : ∃ ys, (∀ x ∈ ys, Fine x) ∧ jappEs m (flatE xs) (endsE 0 xs) l = endsE 0 ys ∧ jappL m (flatE xs) l = flatE ys := by
 unfold jappEs jappL jappE
 by_cases h : jErr l = 0
 · rw [if_pos h, if_pos h]
   unfold appE appL
   by_cases h2 : ((flatE l).length : Int) ≤ m - ((flatE xs).length : Int)
   · rw [if_pos h2, if_pos h2, if_pos rfl]
     refine ⟨xs ++ l, fun x hx => ?_, ?_, (flatE_append xs l).symm⟩
     · rcases List.mem_append.1 hx with hx | hx
       · exact hf x hx
       · exact jErr_fine h x hx
     · rw [endsE_append, Nat.zero_add]
   · rw [if_neg h2, if_neg h2, if_neg (by decide)]
     exact ⟨xs, hf, rfl, rfl⟩
 · rw [if_neg h, if_neg h, if_neg h]
   exact ⟨xs, hf, rfl, rfl⟩
theorem cut_log (xs : List K.S26) (n : Nat) (hn : n ≤ xs.length) : ∃ a : Nat, ((n = 0 ∧ a = 0) ∨ ∃ k, n = k + 1 ∧ (endsE 0 xs).getD k 0 = (a : Int)) ∧ a ≤ (flatE xs).length ∧ (endsE 0 xs).take n = endsE 0 (xs.take n) ∧ (flatE xs).take a = flatE (xs.take n) := by
 refine ⟨(flatE (xs.take n)).length, ?_, flat_len_le xs n, endsE_take n 0 xs, ?_⟩
 · cases n with
   | zero => exact .inl ⟨rfl, by simp [flatE]⟩
   | succ k => exact .inr ⟨k, rfl, by rw [endsE_get k 0 xs (by omega), Nat.zero_add]⟩
 · have h : flatE xs = flatE (xs.take n) ++ flatE (xs.drop n) := by rw [← flatE_append, List.take_append_drop]
   rw [h, List.take_left]
theorem crash_log (xs : List K.S26) (s k : Int) (hf : ∀ x ∈ xs, Fine x) (hk : 0 ≤ k) (hs : 0 ≤ s) (hs2 : s ≤ (flatE xs).length) : ∃ ys r, LogOf (crL (flatE xs) s k) ys r ∧ (∀ x ∈ ys, Fine x) := by
 unfold crL
 rw [if_neg (by omega)]
 obtain ⟨j, r, _, h, _⟩ := log_cut xs (s + min k ((flatE xs).length - s)).toNat hf (by omega)
 exact ⟨xs.take j, r, h, h.fine⟩
end Go.Proofs.Ytmbnjgnmblgjoaa.Man
end
section
namespace Go.Proofs.Ytmbnjgnmblgjoaa.Man
open Go.RowKit Go.Shelf Go.Proofs.YtmbnjgnmblgjoaaW.PrintWords Go.Proofs.YtmbnjgnmblgjoaaW.PrintLast Go.Proofs.YtmbnjgnmblgjoaaW.PrintMore
set_option linter.unusedVariables false
set_option linter.unusedSimpArgs false
theorem cut_pair {w : World} {base J D J' D' : Nat} {vE v uE u : Value} {xs : List K.S26} {s m : Int} (h : JP w base J D vE v J' D' uE u (endsE 0 xs) (flatE xs) s m) (hf : ∀ x ∈ xs, Fine x) (hbase : base ≤ w.heap.size) (n : Int) :
 ∃ (e : Int) (ys : List K.S26) (s2 : Int), (∀ x ∈ ys, Fine x) ∧
  Calls Try.prog 83 #[.pointer (some ⟨J, 0, none⟩), .int .i64 n] w (fun r w' => r = .returned (.int .i64 e) ∧ ∃ vE' v', JS w' base J D vE' v' (endsE 0 ys) (flatE ys) s2 m ∧ JStep w w' J D v v' vE vE') ∧
  ∀ w1, RJS w1 base J' D' uE u (endsE 0 xs) (flatE xs) s m → base ≤ w1.heap.size →
   Calls Try.prog 84 #[.pointer (some ⟨J', 0, none⟩), .int .i64 n] w1 (fun r w' => r = .returned (.int .i64 e) ∧ ∃ uE' u', RJS w' base J' D' uE' u' (endsE 0 ys) (flatE ys) s2 m ∧ JStep w1 w' J' D' u u' uE uE') := by
 have hl : (endsE 0 xs).length = xs.length := endsE_length 0 xs
 by_cases hb : n < 0 ∨ ((endsE 0 xs).length : Int) < n
 · refine ⟨1, xs, s, hf, (jcut_bad h.one n hb).mono ?_, fun w1 k hk => (rjcut_bad k n hb).mono ?_⟩
   · rintro r w' ⟨rfl, rfl⟩; exact ⟨rfl, _, _, h.one, JStep.of_below _ _ _ _ (Below.refl _ _)⟩
   · rintro r w' ⟨rfl, rfl⟩; exact ⟨rfl, _, _, k, JStep.of_below _ _ _ _ (Below.refl _ _)⟩
 · obtain ⟨N, rfl⟩ : ∃ N : Nat, n = (N : Int) := ⟨n.toNat, by omega⟩
   have hN : N ≤ xs.length := by omega
   obtain ⟨a, h1, h2, h3, h4⟩ := cut_log xs N hN
   have hxl := flat_len_ge xs
   have hbl : (flatE xs).length ≤ 262144 := by have := h.one.disk.len; have := h.one.disk.m1; omega
   refine ⟨0, xs.take N, a, fun x hx => hf x (List.mem_of_mem_take hx), ?_, fun w1 k hk => ?_⟩
   · have := jcut_is h.one N a (by omega) h1 h2
     rwa [h3, h4] at this
   · have := rjcut_is k hk (by omega) N a (by omega) h1 h2
     rwa [h3, h4] at this
theorem app_pair {w : World} {base J D J' D' : Nat} {vE v uE u : Value} {xs : List K.S26} {s m : Int} (h : JP w base J D vE v J' D' uE u (endsE 0 xs) (flatE xs) s m) (hf : ∀ x ∈ xs, Fine x) (A0 : Option Addr) (c0 : Nat) (l : List K.S26) (hC : Kd.C K.k26 w A0 l.length l) (hc : l.length ≤ c0) (hl : l.length ≤ 1048576) :
 ∃ (e : Int) (ys : List K.S26), (∀ x ∈ ys, Fine x) ∧
  Calls Try.prog 76 #[.pointer (some ⟨J, 0, none⟩), .slice A0 l.length c0] w (fun r w' => r = .returned (.int .i64 e) ∧ ∃ vE' v', JS w' base J D vE' v' (endsE 0 ys) (flatE ys) s m ∧ JStep w w' J D v v' vE vE') ∧
  ∀ w1, RJS w1 base J' D' uE u (endsE 0 xs) (flatE xs) s m → Kd.C K.k26 w1 A0 l.length l → base ≤ w1.heap.size →
   Calls Try.prog 81 #[.pointer (some ⟨J', 0, none⟩), .slice A0 l.length c0] w1 (fun r w' => r = .returned (.int .i64 e) ∧ ∃ uE' u', RJS w' base J' D' uE' u' (endsE 0 ys) (flatE ys) s m ∧ JStep w1 w' J' D' u u' uE uE') := by
 have hll : (endsE 0 xs).length = xs.length := endsE_length 0 xs
 have hxl := flat_len_ge xs
 have hbl : (flatE xs).length ≤ 262144 := by have := h.one.disk.len; have := h.one.disk.m1; omega
 obtain ⟨ys, h1, h2, h3⟩ := app_log m xs l hf
 refine ⟨jappE m (flatE xs) l, ys, h1, ?_, fun w1 k hk hb => ?_⟩
 · have := jappend_is h.one A0 c0 l hC hc hl (by omega)
   rwa [h2, h3] at this
 · have := rjappend_is k A0 c0 l hk hc hl (by omega) hb
   rwa [h2, h3] at this
theorem crash_pair {w : World} {base J D J' D' : Nat} {vE v uE u : Value} {xs : List K.S26} {s m : Int} (h : JP w base J D vE v J' D' uE u (endsE 0 xs) (flatE xs) s m) (hf : ∀ x ∈ xs, Fine x) (k : Int) (hk0 : 0 ≤ k) (hk1 : k ≤ 9223372036854775807) (hbase : base ≤ w.heap.size) :
 ∃ (ys : List K.S26), (∀ x ∈ ys, Fine x) ∧
  Calls Try.prog 78 #[.pointer (some ⟨J, 0, none⟩), .int .i64 k] w (fun e w' => ∃ J1 vE' vL' v', e = .returned (.tuple #[.pointer (some ⟨J1, 0, none⟩), vL', .int .i64 0]) ∧ w.heap.size ≤ J1 ∧ JS w' base J1 D vE' v' (endsE 0 ys) (flatE ys) ((flatE ys).length : Int) m ∧ ER w' w.heap.size vL' ys ∧ DStep w w' D v v') ∧
  ∀ w1, RJS w1 base J' D' uE u (endsE 0 xs) (flatE xs) s m →
   Calls Try.prog 82 #[.pointer (some ⟨J', 0, none⟩), .int .i64 k] w1 (fun e w' => ∃ J1 vE' vL' v', e = .returned (.tuple #[.pointer (some ⟨J1, 0, none⟩), vL', .int .i64 0]) ∧ w1.heap.size ≤ J1 ∧ RJS w' base J1 D' vE' v' (endsE 0 ys) (flatE ys) ((flatE ys).length : Int) m ∧ ER w' w1.heap.size vL' ys ∧ DStep w1 w' D' u v') := by
 obtain ⟨ys, r, h1, h2⟩ := crash_log xs s k hf hk0 h.one.disk.s0 h.one.disk.s1
 exact ⟨ys, h2, jcrash_is h.one k hk0 hk1 (flatE_bytes xs) h1, fun w1 q => rjcrash_is q k hk0 hk1 (flatE_bytes xs) h1⟩
end Go.Proofs.Ytmbnjgnmblgjoaa.Man
end
