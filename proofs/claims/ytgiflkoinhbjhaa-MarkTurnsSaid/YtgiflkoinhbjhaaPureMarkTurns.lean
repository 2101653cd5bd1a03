/- The statement MarkTurns over numbers alone: for every set and mark (of int's range), put in, taken out and asked, the program and the reference tell the same. No condition. -/
import Derived.Test.YtgiflkoinhbjhaaPMarkTurnsx1
namespace Go.Proofs.Ytgiflkoinhbjhaa.Pure
open Go.RowKit Go.Proofs.Ytgiflkoinhbjhaa.PMarkTurns Go.Proofs.YtgiflkoinhbjhaaW.PrintWords Go.Proofs.YtgiflkoinhbjhaaW.PrintLast

theorem sh0 : shl .i64 1 0 = 1 := by decide +kernel
theorem sh1 : shl .i64 1 1 = 2 := by decide +kernel
theorem sh2 : shl .i64 1 2 = 4 := by decide +kernel

theorem place_none (k : Nat) (m : Int) (h1 : m ≠ 1) (h2 : m ≠ 2) (h4 : m ≠ 4) : mark_place.f (k + 5) m = some 3 := by
  have e1 : wrap64 (0 + 1) = 1 := by decide +kernel
  have e2 : wrap64 (1 + 1) = 2 := by decide +kernel
  have e3 : wrap64 (2 + 1) = 3 := by decide +kernel
  unfold mark_place.f
  simp only [mark_place.l0]
  rw [sh0, if_neg h1, if_pos (by decide), if_pos (by decide), e1, sh1, if_neg h2, if_pos (by decide), if_pos (by decide), e2, sh2, if_neg h4, if_pos (by decide), if_pos (by decide), e3, if_neg (by decide)]
theorem place_one (k : Nat) : mark_place.f (k + 5) 1 = some 0 := by
  unfold mark_place.f
  simp only [mark_place.l0]
  rw [sh0]; rfl
theorem place_two (k : Nat) : mark_place.f (k + 5) 2 = some 1 := by
  have e1 : wrap64 (0 + 1) = 1 := by decide +kernel
  unfold mark_place.f
  simp only [mark_place.l0]
  rw [sh0, e1, sh1]; rfl
theorem place_four (k : Nat) : mark_place.f (k + 5) 4 = some 2 := by
  have e1 : wrap64 (0 + 1) = 1 := by decide +kernel
  have e2 : wrap64 (1 + 1) = 2 := by decide +kernel
  unfold mark_place.f
  simp only [mark_place.l0]
  rw [sh0, e1, sh1, e2, sh2]; rfl
theorem right_yes (s : Int) (h : 0 ≤ s ∧ s ≤ 4) : mark_Right.f s = some true := by
  unfold mark_Right.f; rw [if_pos (by omega)]; simp [h.2]
theorem right_no (s : Int) (h : ¬ (0 ≤ s ∧ s ≤ 4)) : mark_Right.f s = some false := by
  unfold mark_Right.f
  by_cases h0 : s ≥ 0
  · rw [if_pos h0]; simp; omega
  · rw [if_neg h0]
theorem may_none (k : Nat) (s m : Int) (h1 : m ≠ 1) (h2 : m ≠ 2) (h4 : m ≠ 4) : mark_may.f (k + 5) s m = some 1 := by
  unfold mark_may.f; rw [place_none k m h1 h2 h4]; rfl
theorem may_form (k : Nat) (s m : Int) (hm : m = 1 ∨ m = 2 ∨ m = 4) (h : ¬ (0 ≤ s ∧ s ≤ 4)) : mark_may.f (k + 5) s m = some 4 := by
  unfold mark_may.f; rw [right_no s h]; rcases hm with rfl | rfl | rfl
  · rw [place_one]; rfl
  · rw [place_two]; rfl
  · rw [place_four]; rfl
theorem rright_no (s : Int) (h : ¬ (0 ≤ s ∧ s ≤ 4)) : emenderref03_Right.f s = some false := right_no s h
theorem five (s : Int) (h : 0 ≤ s ∧ s ≤ 4) : s = 0 ∨ s = 1 ∨ s = 2 ∨ s = 3 ∨ s = 4 := by omega
theorem is_no (m : Int) (h1 : m ≠ 1) (h2 : m ≠ 2) (h4 : m ≠ 4) : emenderref03_is.f m = some false := by
  unfold emenderref03_is.f; rw [if_neg h1, if_neg h2]; simp [h4]
theorem is_yes (m : Int) (hm : m = 1 ∨ m = 2 ∨ m = 4) : emenderref03_is.f m = some true := by
  rcases hm with rfl | rfl | rfl <;> rfl

theorem MarkTurns : emenderlaw03_MarkTurns.Pure := by
  intro s m _ _
  refine ⟨20, ?_⟩
  by_cases hm : m = 1 ∨ m = 2 ∨ m = 4
  · by_cases hs : 0 ≤ s ∧ s ≤ 4
    · rcases hm with rfl | rfl | rfl <;> rcases five s hs with rfl | rfl | rfl | rfl | rfl <;> decide +kernel
    · have a1 := may_form 15 s m hm hs
      unfold emenderlaw03_MarkTurns.f mark_Add.f mark_Take.f mark_Has.f emenderref03_Add.f emenderref03_Take.f emenderref03_Has.f
      rw [a1, rright_no s hs, is_yes m hm, right_no s hs]
      rfl
  · have h1 : m ≠ 1 := by omega
    have h2 : m ≠ 2 := by omega
    have h4 : m ≠ 4 := by omega
    have a1 := may_none 15 s m h1 h2 h4
    unfold emenderlaw03_MarkTurns.f mark_Add.f mark_Take.f mark_Has.f emenderref03_Add.f emenderref03_Take.f emenderref03_Has.f
    rw [a1, is_no m h1 h2 h4]
    by_cases hs : 0 ≤ s ∧ s ≤ 4
    · rw [show emenderref03_Right.f s = some true from right_yes s hs, right_yes s hs]
      rfl
    · rw [rright_no s hs, right_no s hs]
      rfl

end Go.Proofs.Ytgiflkoinhbjhaa.Pure
