/- The statement MarkWithin over numbers alone: what is within others is right, of both, and all of it within itself, for every sets and marks of int's range. No condition. -/
import Derived.Test.YtgiflkoinhbjhaaQx2
namespace Go.Proofs.Ytgiflkoinhbjhaa.Pure
open Go.RowKit Go.Proofs.Ytgiflkoinhbjhaa.Q Go.Proofs.YtgiflkoinhbjhaaW.PrintWords Go.Proofs.YtgiflkoinhbjhaaW.PrintLast Go.Proofs.YtgiflkoinhbjhaaW.PrintMore

theorem sh0 : shl .i64 1 0 = 1 := by decide +kernel
theorem sh1 : shl .i64 1 1 = 2 := by decide +kernel
theorem sh2 : shl .i64 1 2 = 4 := by decide +kernel

theorem place_none (k : Nat) (m : Int) (h1 : m ≠ 1) (h2 : m ≠ 2) (h4 : m ≠ 4) : mark_place.f (k + 5) m = some 3 := by
  have e1 : wrap64 (0 + 1) = 1 := by decide +kernel
  have e2 : wrap64 (1 + 1) = 2 := by decide +kernel
  have e3 : wrap64 (2 + 1) = 3 := by decide +kernel
  unfold mark_place.f
  simp only [mark_place.l0]
  rw [sh0, if_neg h1, if_pos (by decide), if_pos (by decide), e1, sh1, if_neg h2, if_pos (by decide), if_pos (by decide), e2, sh2, if_neg h4, if_pos (by decide), if_pos (by decide), e3, if_neg (by decide)]
theorem place_one (k : Nat) : mark_place.f (k + 5) 1 = some 0 := by
  unfold mark_place.f
  simp only [mark_place.l0]
  rw [sh0]; rfl
theorem place_two (k : Nat) : mark_place.f (k + 5) 2 = some 1 := by
  have e1 : wrap64 (0 + 1) = 1 := by decide +kernel
  unfold mark_place.f
  simp only [mark_place.l0]
  rw [sh0, e1, sh1]; rfl
theorem place_four (k : Nat) : mark_place.f (k + 5) 4 = some 2 := by
  have e1 : wrap64 (0 + 1) = 1 := by decide +kernel
  have e2 : wrap64 (1 + 1) = 2 := by decide +kernel
  unfold mark_place.f
  simp only [mark_place.l0]
  rw [sh0, e1, sh1, e2, sh2]; rfl
theorem right_yes (s : Int) (h : 0 ≤ s ∧ s ≤ 4) : mark_Right.f s = some true := by
  unfold mark_Right.f; rw [if_pos (by omega)]; simp [h.2]
theorem right_no (s : Int) (h : ¬ (0 ≤ s ∧ s ≤ 4)) : mark_Right.f s = some false := by
  unfold mark_Right.f
  by_cases h0 : s ≥ 0
  · rw [if_pos h0]; simp; omega
  · rw [if_neg h0]
theorem may_none (k : Nat) (s m : Int) (h1 : m ≠ 1) (h2 : m ≠ 2) (h4 : m ≠ 4) : mark_may.f (k + 5) s m = some 1 := by
  unfold mark_may.f; rw [place_none k m h1 h2 h4]; rfl
theorem may_form (k : Nat) (s m : Int) (hm : m = 1 ∨ m = 2 ∨ m = 4) (h : ¬ (0 ≤ s ∧ s ≤ 4)) : mark_may.f (k + 5) s m = some 4 := by
  unfold mark_may.f; rw [right_no s h]; rcases hm with rfl | rfl | rfl
  · rw [place_one]; rfl
  · rw [place_two]; rfl
  · rw [place_four]; rfl
theorem five (s : Int) (h : 0 ≤ s ∧ s ≤ 4) : s = 0 ∨ s = 1 ∨ s = 2 ∨ s = 3 ∨ s = 4 := by omega
theorem has_no (k : Nat) (s m : Int) (h : ¬ ((m = 1 ∨ m = 2 ∨ m = 4) ∧ 0 ≤ s ∧ s ≤ 4)) : mark_Has.f (k + 5) s m = some false := by
  unfold mark_Has.f
  by_cases hm : m = 1 ∨ m = 2 ∨ m = 4
  · rw [may_form k s m hm (by omega)]; rfl
  · rw [may_none k s m (by omega) (by omega) (by omega)]; rfl

theorem within_no (s m : Int) (h : ¬ (0 ≤ s ∧ s ≤ 4)) : mark_Within.f s m = some 0 := by
  unfold mark_Within.f; rw [right_no s h]; rfl
theorem within_yes (s m : Int) (h : 0 ≤ s ∧ s ≤ 4) : mark_Within.f s m = some (Go.bits .and .i64 s m) := by
  unfold mark_Within.f; rw [right_yes s h]; rfl

/-- Of a set's most only the low three bits count. -/
theorem and_low (s m : Int) (h : 0 ≤ s ∧ s ≤ 4) : Go.bits .and .i64 s m = Go.bits .and .i64 s (m % 8) := by
  have e : ∀ a : Nat, a < 8 → a &&& (BitVec.ofInt 64 m).toNat = a &&& (BitVec.ofInt 64 (m % 8)).toNat := by
    intro a ha
    have h1 : (BitVec.ofInt 64 m).toNat % 8 = (BitVec.ofInt 64 (m % 8)).toNat % 8 := by
      simp only [BitVec.toNat_ofInt]
      omega
    have key : ∀ b : Nat, a &&& b = a &&& (b % 8) := fun b => by
      have h2 : a &&& b < 2 ^ 3 := by rw [Nat.and_comm]; exact Nat.and_lt_two_pow b ha
      rw [← Nat.mod_eq_of_lt h2, Nat.and_mod_two_pow, Nat.mod_eq_of_lt (show a < 2 ^ 3 from ha)]
    rw [key, h1, ← key]
  have hs : (BitVec.ofInt 64 s).toNat < 8 := by simp only [BitVec.toNat_ofInt]; omega
  simp only [Go.bits, BitVec.toNat_and]
  show IntKind.i64.wrap (((BitVec.ofInt 64 s).toNat &&& (BitVec.ofInt 64 m).toNat : Nat) : Int) = IntKind.i64.wrap (((BitVec.ofInt 64 s).toNat &&& (BitVec.ofInt 64 (m % 8)).toNat : Nat) : Int)
  rw [e _ hs]

theorem eight (m : Int) : m % 8 = 0 ∨ m % 8 = 1 ∨ m % 8 = 2 ∨ m % 8 = 3 ∨ m % 8 = 4 ∨ m % 8 = 5 ∨ m % 8 = 6 ∨ m % 8 = 7 := by omega

/-- What the statement comes to, of the low bits of most alone. -/
def rest (s w m : Int) : Option Bool :=
  (mark_Right.f w).bind fun t => if t = true then ((mark_Within.f w s).bind fun t => if t = w then ((mark_Has.f 20 w m).bind fun t => if t = true then ((mark_Has.f 20 s m).bind fun t => if t = true then some true else some false) else some true) else some false) else some false

theorem MarkWithin : emenderlaw03_MarkWithin.Pure := by
  intro s most m _ _ _
  refine ⟨20, ?_⟩
  unfold emenderlaw03_MarkWithin.f
  by_cases hs : 0 ≤ s ∧ s ≤ 4
  · have hw : ∀ w : Int, w = Go.bits .and .i64 s most → (0 ≤ w ∧ w ≤ 4) ∧ Go.bits .and .i64 w most = w := by
      intro w e
      rw [and_low s most hs] at e
      have h04 : 0 ≤ w ∧ w ≤ 4 := by
        rcases five s hs with rfl | rfl | rfl | rfl | rfl <;> rcases eight most with h8 | h8 | h8 | h8 | h8 | h8 | h8 | h8 <;> (rw [h8] at e; subst e; decide +kernel)
      refine ⟨h04, ?_⟩
      rw [and_low w most h04]
      rcases five s hs with rfl | rfl | rfl | rfl | rfl <;> rcases eight most with h8 | h8 | h8 | h8 | h8 | h8 | h8 | h8 <;> (rw [h8] at e ⊢; subst e; decide +kernel)
    obtain ⟨w, e⟩ : ∃ w, w = Go.bits .and .i64 s most := ⟨_, rfl⟩
    obtain ⟨h04, hww⟩ := hw w e
    rw [and_low s most hs] at e
    have hws : Go.bits .and .i64 w s = w := by
      rcases five s hs with rfl | rfl | rfl | rfl | rfl <;> rcases eight most with h8 | h8 | h8 | h8 | h8 | h8 | h8 | h8 <;> (rw [h8] at e; subst e; decide +kernel)
    have hs7 : Go.bits .and .i64 s 7 = s := by rcases five s hs with rfl | rfl | rfl | rfl | rfl <;> decide +kernel
    have hle : w ≤ s := by
      rcases five s hs with rfl | rfl | rfl | rfl | rfl <;> rcases eight most with h8 | h8 | h8 | h8 | h8 | h8 | h8 | h8 <;> (rw [h8] at e; subst e; decide +kernel)
    have hmx : s = mx w s := by unfold mx; split <;> omega
    have hfin : (if s = mx w s then ((emenderlaw03_awake.f).bind fun t => some t) else some false) = some true := by rw [if_pos hmx]; decide +kernel
    rw [within_yes s most hs, and_low s most hs, ← e]
    simp only [Option.bind_some]
    rw [right_yes w h04]
    simp only [Option.bind_some, if_true]
    rw [within_yes w most h04, hww]
    simp only [Option.bind_some, if_true]
    rw [within_yes w s h04, hws]
    simp only [Option.bind_some, if_true]
    rw [within_yes s 7 hs, hs7]
    simp only [Option.bind_some]
    by_cases hm : m = 1 ∨ m = 2 ∨ m = 4
    · have hhas : ∃ b c, mark_Has.f 20 w m = some b ∧ mark_Has.f 20 s m = some c ∧ (b = true → c = true) := by
        rcases hm with rfl | rfl | rfl <;> rcases five s hs with rfl | rfl | rfl | rfl | rfl <;> rcases five w h04 with rfl | rfl | rfl | rfl | rfl <;>
          first
          | exact ⟨_, _, by decide +kernel, by decide +kernel, by decide +kernel⟩
          | (exfalso; revert hws; decide +kernel)
          | exact ⟨true, true, by decide +kernel, by decide +kernel, by decide⟩
          | exact ⟨false, true, by decide +kernel, by decide +kernel, by decide⟩
          | exact ⟨false, false, by decide +kernel, by decide +kernel, by decide⟩
      obtain ⟨b, c, hb, hc, hbc⟩ := hhas
      rw [hb, hc]
      simp only [Option.bind_some]
      cases b with
      | false => simp only [Bool.false_eq_true, if_false]; exact hfin
      | true => rw [hbc rfl]; simp only [if_true]; exact hfin
    · rw [has_no 15 w m (by omega)]
      simp only [Option.bind_some, Bool.false_eq_true, if_false]
      exact hfin
  · rw [within_no s most hs]
    simp only [Option.bind_some]
    rw [right_yes 0 (by omega)]
    simp only [Option.bind_some, if_true]
    have z : ∀ x : Int, mark_Within.f 0 x = some 0 := fun x => by
      rw [within_yes 0 x (by omega), and_low 0 x (by omega)]
      rcases eight x with h8 | h8 | h8 | h8 | h8 | h8 | h8 | h8 <;> (rw [h8]; decide +kernel)
    rw [z most, z s]
    simp only [Option.bind_some, if_true]
    have hh : mark_Has.f 20 0 m = some false := by
      by_cases hm : m = 1 ∨ m = 2 ∨ m = 4
      · rcases hm with rfl | rfl | rfl <;> decide +kernel
      · exact has_no 15 0 m (by omega)
    rw [hh, within_no s 7 hs]
    simp only [Option.bind_some, Bool.false_eq_true, if_false]
    decide +kernel

end Go.Proofs.Ytgiflkoinhbjhaa.Pure
