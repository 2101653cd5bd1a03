/- The statement MarkLists over numbers alone: the marks of any set, and those within others, as the reference tells them, for every two sets of int's range. No condition. -/
import Derived.Test.YtgiflkoinhbjhaaQx2
namespace Go.Proofs.Ytgiflkoinhbjhaa.Pure
open Go.RowKit Go.Proofs.Ytgiflkoinhbjhaa.Q Go.Proofs.YtgiflkoinhbjhaaW.PrintWords Go.Proofs.YtgiflkoinhbjhaaW.PrintLast Go.Proofs.YtgiflkoinhbjhaaW.PrintMore

theorem sh0 : shl .i64 1 0 = 1 := by decide +kernel
theorem sh1 : shl .i64 1 1 = 2 := by decide +kernel
theorem sh2 : shl .i64 1 2 = 4 := by decide +kernel

theorem place_none (k : Nat) (m : Int) (h1 : m ≠ 1) (h2 : m ≠ 2) (h4 : m ≠ 4) : mark_place.f (k + 5) m = some 3 := by
  have e1 : wrap64 (0 + 1) = 1 := by decide +kernel
  have e2 : wrap64 (1 + 1) = 2 := by decide +kernel
  have e3 : wrap64 (2 + 1) = 3 := by decide +kernel
  unfold mark_place.f
  simp only [mark_place.l0]
  rw [sh0, if_neg h1, if_pos (by decide), if_pos (by decide), e1, sh1, if_neg h2, if_pos (by decide), if_pos (by decide), e2, sh2, if_neg h4, if_pos (by decide), if_pos (by decide), e3, if_neg (by decide)]
theorem place_one (k : Nat) : mark_place.f (k + 5) 1 = some 0 := by
  unfold mark_place.f
  simp only [mark_place.l0]
  rw [sh0]; rfl
theorem place_two (k : Nat) : mark_place.f (k + 5) 2 = some 1 := by
  have e1 : wrap64 (0 + 1) = 1 := by decide +kernel
  unfold mark_place.f
  simp only [mark_place.l0]
  rw [sh0, e1, sh1]; rfl
theorem place_four (k : Nat) : mark_place.f (k + 5) 4 = some 2 := by
  have e1 : wrap64 (0 + 1) = 1 := by decide +kernel
  have e2 : wrap64 (1 + 1) = 2 := by decide +kernel
  unfold mark_place.f
  simp only [mark_place.l0]
  rw [sh0, e1, sh1, e2, sh2]; rfl
theorem right_yes (s : Int) (h : 0 ≤ s ∧ s ≤ 4) : mark_Right.f s = some true := by
  unfold mark_Right.f; rw [if_pos (by omega)]; simp [h.2]
theorem right_no (s : Int) (h : ¬ (0 ≤ s ∧ s ≤ 4)) : mark_Right.f s = some false := by
  unfold mark_Right.f
  by_cases h0 : s ≥ 0
  · rw [if_pos h0]; simp; omega
  · rw [if_neg h0]
theorem may_none (k : Nat) (s m : Int) (h1 : m ≠ 1) (h2 : m ≠ 2) (h4 : m ≠ 4) : mark_may.f (k + 5) s m = some 1 := by
  unfold mark_may.f; rw [place_none k m h1 h2 h4]; rfl
theorem may_form (k : Nat) (s m : Int) (hm : m = 1 ∨ m = 2 ∨ m = 4) (h : ¬ (0 ≤ s ∧ s ≤ 4)) : mark_may.f (k + 5) s m = some 4 := by
  unfold mark_may.f; rw [right_no s h]; rcases hm with rfl | rfl | rfl
  · rw [place_one]; rfl
  · rw [place_two]; rfl
  · rw [place_four]; rfl
theorem five (s : Int) (h : 0 ≤ s ∧ s ≤ 4) : s = 0 ∨ s = 1 ∨ s = 2 ∨ s = 3 ∨ s = 4 := by omega
theorem has_no (k : Nat) (s m : Int) (h : ¬ ((m = 1 ∨ m = 2 ∨ m = 4) ∧ 0 ≤ s ∧ s ≤ 4)) : mark_Has.f (k + 5) s m = some false := by
  unfold mark_Has.f
  by_cases hm : m = 1 ∨ m = 2 ∨ m = 4
  · rw [may_form k s m hm (by omega)]; rfl
  · rw [may_none k s m (by omega) (by omega) (by omega)]; rfl
theorem list_step (k : Nat) (s p m q : Int) (hp : p < 3) (h0 : 0 ≤ p) (hm : shl .i64 1 p = m) (hq : wrap64 (p + 1) = q) (hh : mark_Has.f k s m = some false) : mark_List.l0 (k + 1) s [] p = mark_List.l0 k s [] q := by
  rw [mark_List.l0, if_pos hp, if_pos h0, hm, hh, hq]
  rfl
theorem list_no (s : Int) (h : ¬ (0 ≤ s ∧ s ≤ 4)) : mark_List.f 20 s = some [] := by
  unfold mark_List.f
  rw [list_step 19 s 0 1 1 (by decide) (by decide) sh0 (by decide +kernel) (has_no 14 s 1 (by omega)), list_step 18 s 1 2 2 (by decide) (by decide) sh1 (by decide +kernel) (has_no 13 s 2 (by omega)),
    list_step 17 s 2 4 3 (by decide) (by decide) sh2 (by decide +kernel) (has_no 12 s 4 (by omega))]
  rfl

theorem rhas_no (s m : Int) (h : ¬ (0 ≤ s ∧ s ≤ 4)) : emenderref03_Has.f s m = some false := by
  unfold emenderref03_Has.f; rw [show emenderref03_Right.f s = some false from right_no s h]; rfl
theorem rlist_step (k : Nat) (s m q : Int) (hp : m ≤ 4) (hq : wrap64 (2 * m) = q) (h : ¬ (0 ≤ s ∧ s ≤ 4)) : emenderref03_List.l0 (k + 1) s [] m = emenderref03_List.l0 k s [] q := by
  rw [emenderref03_List.l0, if_pos hp, rhas_no s m h, hq]
  rfl
theorem rlist_no (s : Int) (h : ¬ (0 ≤ s ∧ s ≤ 4)) : emenderref03_List.f 20 s = some [] := by
  unfold emenderref03_List.f
  rw [rlist_step 19 s 1 2 (by decide) (by decide +kernel) h, rlist_step 18 s 2 4 (by decide) (by decide +kernel) h, rlist_step 17 s 4 8 (by decide) (by decide +kernel) h]
  rfl
theorem within_same (s m : Int) : ∃ r, mark_Within.f s m = some r ∧ emenderref03_Within.f s m = some r := by
  unfold mark_Within.f emenderref03_Within.f
  by_cases h : 0 ≤ s ∧ s ≤ 4
  · rw [show emenderref03_Right.f s = some true from right_yes s h, right_yes s h]; exact ⟨_, rfl, rfl⟩
  · rw [show emenderref03_Right.f s = some false from right_no s h, right_no s h]; exact ⟨_, rfl, rfl⟩

theorem lists_five (s m : Int) (hs : 0 ≤ s ∧ s ≤ 4) : ∃ l, mark_List.f 20 s = some l ∧ emenderref03_List.f 20 s = some l ∧ emenderlaw03_MarkLists.j0 20 l l false = some true := by
  rcases five s hs with rfl | rfl | rfl | rfl | rfl
  · exact ⟨[], by decide +kernel, by decide +kernel, by decide +kernel⟩
  · exact ⟨[1], by decide +kernel, by decide +kernel, by decide +kernel⟩
  · exact ⟨[2], by decide +kernel, by decide +kernel, by decide +kernel⟩
  · exact ⟨[1, 2], by decide +kernel, by decide +kernel, by decide +kernel⟩
  · exact ⟨[4], by decide +kernel, by decide +kernel, by decide +kernel⟩

theorem MarkLists : emenderlaw03_MarkLists.Pure := by
  intro s m _ _
  refine ⟨20, ?_⟩
  obtain ⟨r, h1, h2⟩ := within_same s m
  have hall : ∃ l, mark_List.f 20 s = some l ∧ emenderref03_List.f 20 s = some l ∧ emenderlaw03_MarkLists.j0 20 l l false = some true := by
    by_cases hs : 0 ≤ s ∧ s ≤ 4
    · exact lists_five s m hs
    · exact ⟨[], list_no s hs, rlist_no s hs, by decide +kernel⟩
  obtain ⟨l, h3, h4, h5⟩ := hall
  unfold emenderlaw03_MarkLists.f
  rw [h3, h4, h1, h2]
  simp only [Option.bind_some]
  rw [if_pos trivial]
  simp only [bne_self_eq_false]
  exact h5

end Go.Proofs.Ytgiflkoinhbjhaa.Pure
