/- The statement MarkOrder over numbers alone: two marks put in, or taken out, one behind the other, make the same set whichever comes first, for every set and marks of int's range. No condition. -/
import Derived.Test.YtgiflkoinhbjhaaPMarkOrderx1
namespace Go.Proofs.Ytgiflkoinhbjhaa.Pure
open Go.RowKit Go.Proofs.Ytgiflkoinhbjhaa.PMarkOrder Go.Proofs.YtgiflkoinhbjhaaW.PrintWords Go.Proofs.YtgiflkoinhbjhaaW.PrintLast

theorem sh0 : shl .i64 1 0 = 1 := by decide +kernel
theorem sh1 : shl .i64 1 1 = 2 := by decide +kernel
theorem sh2 : shl .i64 1 2 = 4 := by decide +kernel

theorem place_none (k : Nat) (m : Int) (h1 : m ≠ 1) (h2 : m ≠ 2) (h4 : m ≠ 4) : mark_place.f (k + 5) m = some 3 := by
  have e1 : wrap64 (0 + 1) = 1 := by decide +kernel
  have e2 : wrap64 (1 + 1) = 2 := by decide +kernel
  have e3 : wrap64 (2 + 1) = 3 := by decide +kernel
  unfold mark_place.f
  simp only [mark_place.l0]
  rw [sh0, if_neg h1, if_pos (by decide), if_pos (by decide), e1, sh1, if_neg h2, if_pos (by decide), if_pos (by decide), e2, sh2, if_neg h4, if_pos (by decide), if_pos (by decide), e3, if_neg (by decide)]
theorem place_one (k : Nat) : mark_place.f (k + 5) 1 = some 0 := by
  unfold mark_place.f
  simp only [mark_place.l0]
  rw [sh0]; rfl
theorem place_two (k : Nat) : mark_place.f (k + 5) 2 = some 1 := by
  have e1 : wrap64 (0 + 1) = 1 := by decide +kernel
  unfold mark_place.f
  simp only [mark_place.l0]
  rw [sh0, e1, sh1]; rfl
theorem place_four (k : Nat) : mark_place.f (k + 5) 4 = some 2 := by
  have e1 : wrap64 (0 + 1) = 1 := by decide +kernel
  have e2 : wrap64 (1 + 1) = 2 := by decide +kernel
  unfold mark_place.f
  simp only [mark_place.l0]
  rw [sh0, e1, sh1, e2, sh2]; rfl
theorem right_yes (s : Int) (h : 0 ≤ s ∧ s ≤ 4) : mark_Right.f s = some true := by
  unfold mark_Right.f; rw [if_pos (by omega)]; simp [h.2]
theorem right_no (s : Int) (h : ¬ (0 ≤ s ∧ s ≤ 4)) : mark_Right.f s = some false := by
  unfold mark_Right.f
  by_cases h0 : s ≥ 0
  · rw [if_pos h0]; simp; omega
  · rw [if_neg h0]
theorem may_none (k : Nat) (s m : Int) (h1 : m ≠ 1) (h2 : m ≠ 2) (h4 : m ≠ 4) : mark_may.f (k + 5) s m = some 1 := by
  unfold mark_may.f; rw [place_none k m h1 h2 h4]; rfl
theorem may_form (k : Nat) (s m : Int) (hm : m = 1 ∨ m = 2 ∨ m = 4) (h : ¬ (0 ≤ s ∧ s ≤ 4)) : mark_may.f (k + 5) s m = some 4 := by
  unfold mark_may.f; rw [right_no s h]; rcases hm with rfl | rfl | rfl
  · rw [place_one]; rfl
  · rw [place_two]; rfl
  · rw [place_four]; rfl
theorem five (s : Int) (h : 0 ≤ s ∧ s ≤ 4) : s = 0 ∨ s = 1 ∨ s = 2 ∨ s = 3 ∨ s = 4 := by omega

theorem add_bad (k : Nat) (s m : Int) (h : ¬ ((m = 1 ∨ m = 2 ∨ m = 4) ∧ 0 ≤ s ∧ s ≤ 4)) : ∃ e, e ≠ 0 ∧ mark_Add.f (k + 5) s m = some (0, e) := by
  unfold mark_Add.f
  by_cases hm : m = 1 ∨ m = 2 ∨ m = 4
  · refine ⟨4, by decide, ?_⟩
    rw [may_form k s m hm (by omega)]; rfl
  · refine ⟨1, by decide, ?_⟩
    rw [may_none k s m (by omega) (by omega) (by omega)]; rfl
theorem add_some (k : Nat) (s m : Int) : ∃ r, mark_Add.f (k + 5) s m = some r := by
  by_cases h : (m = 1 ∨ m = 2 ∨ m = 4) ∧ 0 ≤ s ∧ s ≤ 4
  · obtain ⟨hm, hs⟩ := h
    unfold mark_Add.f mark_may.f
    rw [right_yes s hs]
    rcases hm with rfl | rfl | rfl <;> rcases five s hs with rfl | rfl | rfl | rfl | rfl <;>
      first
      | (rw [place_one]; exact ⟨_, rfl⟩)
      | (rw [place_two]; exact ⟨_, rfl⟩)
      | (rw [place_four]; exact ⟨_, rfl⟩)
  · obtain ⟨e, _, h⟩ := add_bad k s m h
    exact ⟨_, h⟩

theorem MarkOrder : emenderlaw03_MarkOrder.Pure := by
  intro s m n _ _ _
  refine ⟨20, ?_⟩
  by_cases h1 : (m = 1 ∨ m = 2 ∨ m = 4) ∧ 0 ≤ s ∧ s ≤ 4
  · by_cases h2 : (n = 1 ∨ n = 2 ∨ n = 4) ∧ 0 ≤ s ∧ s ≤ 4
    · obtain ⟨hm, hs⟩ := h1
      obtain ⟨hn, _⟩ := h2
      rcases hm with rfl | rfl | rfl <;> rcases hn with rfl | rfl | rfl <;> rcases five s hs with rfl | rfl | rfl | rfl | rfl <;> decide +kernel
    · obtain ⟨e, he, h⟩ := add_bad 15 s n h2
      obtain ⟨r, hr⟩ := add_some 15 s m
      unfold emenderlaw03_MarkOrder.f
      rw [h, hr]
      simp only [Option.bind_some]
      have hb : (e != 0) = true := bne_iff_ne.mpr he
      simp only [hb]
      split <;> rfl
  · obtain ⟨e, he, h⟩ := add_bad 15 s m h1
    obtain ⟨r, hr⟩ := add_some 15 s n
    unfold emenderlaw03_MarkOrder.f
    rw [h, hr]
    simp only [Option.bind_some]
    rw [if_neg he]
    rfl

end Go.Proofs.Ytgiflkoinhbjhaa.Pure
