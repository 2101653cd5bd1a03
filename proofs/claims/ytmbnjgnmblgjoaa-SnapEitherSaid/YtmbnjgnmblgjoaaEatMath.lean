/- Frames in a row of bytes: what more bytes behind it, and what fewer ahead, turn. Plain: no program's run. -/
import Derived.Test.YtmbnjgnmblgjoaaFeed
namespace Go.Proofs.Ytmbnjgnmblgjoaa.Man
open Go.RowKit
set_option linter.unusedVariables false

theorem getL_app (c : List Int) : ∀ (l : List Int) (i n : Nat), (getL l i n).2.2 ≠ 3 → getL (l ++ c) i n = getL l i n
  | [], i, n, h => absurd rfl h
  | x :: l, i, n, h => by
    rw [List.cons_append, getL, getL]
    rw [getL] at h
    split
    · rfl
    · rename_i h1
      rw [if_neg h1] at h
      split
      · rfl
      · rename_i h2
        rw [if_neg h2] at h
        exact getL_app c l _ _ h
theorem getF_app (b c : List Int) (at_ : Int) (h0 : 0 ≤ at_) (h1 : at_ ≤ b.length) (h : (getF b at_).2.2 ≠ 3) : getF (b ++ c) at_ = getF b at_ := by
  unfold getF at h ⊢
  rw [if_neg (by omega)] at h
  rw [if_neg (by rw [List.length_append]; omega), if_neg (by omega), List.drop_append_of_le_length (by omega), getL_app c _ _ _ h]
theorem mid_app (b c : List Int) (i j : Int) (hj : j ≤ b.length) : mid (b ++ c) i j = mid b i j := by
  unfold mid
  rw [List.take_append_of_le_length (by omega)]
theorem openF_app (b c : List Int) (at_ : Int) (hB : areBytesN b = true) (h0 : 0 ≤ at_) (h1 : at_ ≤ b.length) (h : (openF b at_).2.2 ≠ 3) : openF (b ++ c) at_ = openF b at_ := by
  have hg := getF_range b at_ hB
  unfold openF at h ⊢
  by_cases e0 : (getF b at_).2.2 ≠ 0
  · rw [if_pos e0] at h
    rw [getF_app b c at_ h0 h1 h, if_pos e0, if_pos e0]
  have e00 : (getF b at_).2.2 = 0 := by omega
  have hg := hg e00
  rw [getF_app b c at_ h0 h1 (by omega)]
  rw [if_neg e0] at h ⊢
  by_cases e1 : 65536 < (getF b at_).1
  · rw [if_pos e1, if_neg e0, if_pos e1]
  rw [if_neg e1] at h ⊢
  by_cases e2 : (b.length : Int) - (getF b at_).2.1 < (getF b at_).1 + 4
  · rw [if_pos e2] at h; exact absurd rfl h
  rw [if_neg e0, if_neg e1, if_neg e2, if_neg (by rw [List.length_append]; omega), mid_app b c _ _ (by omega), mid_app b c _ _ (by omega)]

theorem eat_stop (ws c : List Int) (hB : areBytesN ws = true) (hC : areBytesN (ws ++ c) = true) : ∀ (k k' : Nat) (at_ : Int), 0 ≤ at_ → at_ ≤ ws.length → (ws.length : Int) - at_ < k → ((ws ++ c).length : Int) - at_ < k' → (eat k ws at_).2.2 ≠ 3 → eat k' (ws ++ c) at_ = eat k ws at_
  | 0, _, at_, h0, h1, h2, h3, h => by omega
  | k + 1, 0, at_, h0, h1, h2, h3, h => by rw [List.length_append] at h3; omega
  | k + 1, k' + 1, at_, h0, h1, h2, h3, h => by
    rw [eat] at h
    rw [eat, eat]
    by_cases hok : (openF ws at_).2.2 = 0
    · have ho := openF_ok ws at_ hB hok
      rw [if_pos hok] at h
      rw [openF_app ws c at_ hB h0 h1 (by omega), if_pos hok, if_pos hok, eat_stop ws c hB hC k k' _ (by omega) (by omega) (by omega) (by omega) h]
    · rw [if_neg hok] at h
      rw [openF_app ws c at_ hB h0 h1 h, if_neg hok, if_neg hok]
theorem eat_on (ws c : List Int) (hB : areBytesN ws = true) (hC : areBytesN (ws ++ c) = true) (m : Nat) (hm : (ws ++ c).length < m) : ∀ (k k' : Nat) (at_ : Int), 0 ≤ at_ → at_ ≤ ws.length → (ws.length : Int) - at_ < k → ((ws ++ c).length : Int) - at_ < k' → (eat k ws at_).2.2 = 3 →
    eat k' (ws ++ c) at_ = ((eat k ws at_).1 ++ (eat m (ws ++ c) (eat k ws at_).2.1).1, (eat m (ws ++ c) (eat k ws at_).2.1).2) ∧ at_ ≤ (eat k ws at_).2.1 ∧ (eat k ws at_).2.1 ≤ ws.length
  | 0, _, at_, h0, h1, h2, h3, h => by omega
  | k + 1, 0, at_, h0, h1, h2, h3, h => by rw [List.length_append] at h3; omega
  | k + 1, k' + 1, at_, h0, h1, h2, h3, h => by
    rw [eat] at h
    by_cases hok : (openF ws at_).2.2 = 0
    · have ho := openF_ok ws at_ hB hok
      rw [if_pos hok] at h
      obtain ⟨i1, i2, i3⟩ := eat_on ws c hB hC m hm k k' (openF ws at_).2.1 (by omega) (by omega) (by omega) (by omega) h
      have e : eat (k + 1) ws at_ = ((openF ws at_).1 :: (eat k ws (openF ws at_).2.1).1, (eat k ws (openF ws at_).2.1).2) := by rw [eat, if_pos hok]
      rw [e]
      refine ⟨?_, by show at_ ≤ (eat k ws (openF ws at_).2.1).2.1; omega, i3⟩
      rw [eat, openF_app ws c at_ hB h0 h1 (by omega), if_pos hok, i1]
      rfl
    · rw [if_neg hok] at h
      have e : eat (k + 1) ws at_ = ([], at_, (openF ws at_).2.2) := by rw [eat, if_neg hok]
      rw [e]
      refine ⟨?_, Int.le_refl _, h1⟩
      rw [List.nil_append]
      exact eat_fuel (ws ++ c) hC (k' + 1) m at_ (by rw [List.length_append]; omega) (by omega) (by omega)

theorem mid_drop (b : List Int) (p : Nat) (i j : Int) (hi : 0 ≤ i) (hj : 0 ≤ j) : mid (b.drop p) i j = mid b ((p : Int) + i) ((p : Int) + j) := by
  unfold mid
  rw [List.take_drop, List.drop_drop, show p + j.toNat = ((p : Int) + j).toNat by omega, show p + i.toNat = ((p : Int) + i).toNat by omega]
theorem openF_drop (b : List Int) (p : Nat) (q : Int) (hp : p ≤ b.length) (hB : areBytesN b = true) (hq : 0 ≤ q) : openF (b.drop p) q = ((openF b ((p : Int) + q)).1, (openF b ((p : Int) + q)).2.1 - (p : Int), (openF b ((p : Int) + q)).2.2) := by
  have hg := getF_range b ((p : Int) + q) hB
  by_cases hr : (b.length : Int) - p < q
  · have e1 : getF (b.drop p) q = (0, 0, 1) := by unfold getF; rw [if_pos (by rw [List.length_drop]; omega)]
    have e2 : getF b ((p : Int) + q) = (0, 0, 1) := by unfold getF; rw [if_pos (by omega)]
    unfold openF
    rw [e1, e2]
    simp
    omega
  · have e1 : getF (b.drop p) q = ((getF b ((p : Int) + q)).1, (getF b ((p : Int) + q)).2.1 - p, (getF b ((p : Int) + q)).2.2) := by
      unfold getF
      rw [if_neg (by rw [List.length_drop]; omega), if_neg (by omega), List.drop_drop, show p + q.toNat = ((p : Int) + q).toNat by omega]
      simp only [Prod.mk.injEq, true_and, and_true]
      omega
    unfold openF
    rw [e1]
    simp only
    by_cases h0 : (getF b ((p : Int) + q)).2.2 ≠ 0
    · rw [if_pos h0, if_pos h0]; simp; omega
    have hg := hg (by omega)
    rw [if_neg h0, if_neg h0]
    by_cases h1 : 65536 < (getF b ((p : Int) + q)).1
    · rw [if_pos h1, if_pos h1]; simp; omega
    rw [if_neg h1, if_neg h1]
    by_cases h2 : (b.length : Int) - (getF b ((p : Int) + q)).2.1 < (getF b ((p : Int) + q)).1 + 4
    · rw [if_pos h2, if_pos (by rw [List.length_drop]; omega)]; simp; omega
    have e2 : ¬ (((b.drop p).length : Int) - ((getF b ((p : Int) + q)).2.1 - p) < (getF b ((p : Int) + q)).1 + 4) := by rw [List.length_drop]; omega
    rw [if_neg h2, if_neg e2, mid_drop b p _ _ (by omega) (by omega), mid_drop b p _ _ (by omega) (by omega)]
    rw [show (p : Int) + ((getF b ((p : Int) + q)).2.1 - p + (getF b ((p : Int) + q)).1) = (getF b ((p : Int) + q)).2.1 + (getF b ((p : Int) + q)).1 by omega,
      show (p : Int) + ((getF b ((p : Int) + q)).2.1 - p + (getF b ((p : Int) + q)).1 + 4) = (getF b ((p : Int) + q)).2.1 + (getF b ((p : Int) + q)).1 + 4 by omega,
      show (p : Int) + ((getF b ((p : Int) + q)).2.1 - p) = (getF b ((p : Int) + q)).2.1 by omega]
    split
    · simp; omega
    · simp only [Prod.mk.injEq, true_and, and_true]
      omega
theorem eat_drop (b : List Int) (p : Nat) (hp : p ≤ b.length) (hB : areBytesN b = true) : ∀ (k : Nat) (q : Int), 0 ≤ q → eat k (b.drop p) q = ((eat k b ((p : Int) + q)).1, (eat k b ((p : Int) + q)).2.1 - (p : Int), (eat k b ((p : Int) + q)).2.2)
  | 0, q, hq => by simp [eat]; omega
  | k + 1, q, hq => by
    rw [eat, eat, openF_drop b p q hp hB hq]
    simp only
    by_cases hok : (openF b ((p : Int) + q)).2.2 = 0
    · have ho := openF_ok b _ hB hok
      rw [if_pos hok, if_pos hok, eat_drop b p hp hB k _ (by omega), show (p : Int) + ((openF b ((p : Int) + q)).2.1 - p) = (openF b ((p : Int) + q)).2.1 by omega]
    · rw [if_neg hok, if_neg hok]
      simp
      omega

/-- In two pieces as at once: the first tells an end. -/
theorem one_stop (a b : List Int) (hA : areBytesN a = true) (hB : areBytesN b = true) (h : (eatAll a).2.2 ≠ 3) : eatAll (a ++ b) = eatAll a := by
  unfold eatAll at h ⊢
  exact eat_stop a b hA (areBytesN_append hA hB) _ _ 0 (by omega) (by omega) (by omega) (by omega) h
/-- .. the first goes on. -/
theorem one_on (a b : List Int) (hA : areBytesN a = true) (hB : areBytesN b = true) (h : (eatAll a).2.2 = 3) :
    (eatAll (a ++ b)).1 = (eatAll a).1 ++ (eatAll (feedW a ++ b)).1 ∧ feedE (a ++ b) = feedE (feedW a ++ b) ∧ feedH (a ++ b) = feedH (feedW a ++ b) ∧ feedW (a ++ b) = feedW (feedW a ++ b) := by
  have hC := areBytesN_append hA hB
  obtain ⟨e, h1, h2⟩ := eat_on a b hA hC ((a ++ b).length + 1) (by omega) (a.length + 1) ((a ++ b).length + 1) 0 (by omega) (by omega) (by omega) (by omega) h
  change eatAll (a ++ b) = _ at e
  obtain ⟨p, hp⟩ : ∃ p : Nat, (eat (a.length + 1) a 0).2.1 = (p : Int) := ⟨(eat (a.length + 1) a 0).2.1.toNat, by omega⟩
  have hpl : p ≤ a.length := by omega
  have hw : feedW a = a.drop p := by unfold feedW; rw [if_pos h]; unfold eatAll; rw [hp, Int.toNat_natCast]
  have hd : feedW a ++ b = (a ++ b).drop p := by rw [hw, List.drop_append_of_le_length hpl]
  have hlen : ((a ++ b).drop p).length ≤ (a ++ b).length := by rw [List.length_drop]; omega
  have hD := areBytesN_drop hC p
  have e2 : eatAll (feedW a ++ b) = ((eat ((a ++ b).length + 1) (a ++ b) (p : Int)).1, (eat ((a ++ b).length + 1) (a ++ b) (p : Int)).2.1 - (p : Int), (eat ((a ++ b).length + 1) (a ++ b) (p : Int)).2.2) := by
    unfold eatAll
    rw [hd, eat_fuel _ hD _ ((a ++ b).length + 1) 0 (by omega) (by omega) (by omega), eat_drop (a ++ b) p (by rw [List.length_append]; omega) hC _ 0 (by omega), Int.add_zero]
  rw [hp] at e
  refine ⟨by rw [e, e2]; rfl, ?_, ?_, ?_⟩
  · show (if (eatAll (a ++ b)).2.2 = 3 then (0 : Int) else (eatAll (a ++ b)).2.2) = if (eatAll (feedW a ++ b)).2.2 = 3 then 0 else (eatAll (feedW a ++ b)).2.2
    rw [e, e2]
  · show (if (eatAll (a ++ b)).2.2 = 3 then (1 : Int) else 2) = if (eatAll (feedW a ++ b)).2.2 = 3 then 1 else 2
    rw [e, e2]
  · show (if (eatAll (a ++ b)).2.2 = 3 then (a ++ b).drop (eatAll (a ++ b)).2.1.toNat else []) = if (eatAll (feedW a ++ b)).2.2 = 3 then (feedW a ++ b).drop (eatAll (feedW a ++ b)).2.1.toNat else []
    rw [e, e2]
    simp only
    by_cases h3 : (eat ((a ++ b).length + 1) (a ++ b) (p : Int)).2.2 = 3
    · rw [if_pos h3, if_pos h3, hd, List.drop_drop]
      have := (eat_on (a ++ b) [] hC (by rw [List.append_nil]; exact hC) ((a ++ b).length + 1) (by simp) ((a ++ b).length + 1) ((a ++ b).length + 1) (p : Int) (by omega) (by rw [List.length_append]; omega) (by omega) (by simp; omega) h3).2
      congr 1
      omega
    · rw [if_neg h3, if_neg h3]

end Go.Proofs.Ytmbnjgnmblgjoaa.Man
