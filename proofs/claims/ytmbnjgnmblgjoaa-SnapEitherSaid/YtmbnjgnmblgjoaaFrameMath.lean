/- Frames: written, read; cut short; one way to write. Plain: no program's run. -/
import Derived.Test.YtmbnjgnmblgjoaaEatMath
namespace Go.Proofs.Ytmbnjgnmblgjoaa.Man
open Go.RowKit
set_option linter.unusedVariables false

theorem be_length (s : Int) : (be s).length = 4 := rfl
theorem be4_be (s : Int) (h0 : 0 ≤ s) (h1 : s < 4294967296) : be4 (be s) = s := by
  unfold be4 be
  simp only [List.getD_cons_zero, List.getD_cons_succ]
  omega
theorem be_be4 (l : List Int) (hl : l.length = 4) (hB : areBytesN l = true) : be (be4 l) = l := by
  match l, hl with
  | [a, b, c, d], _ =>
    have e0 := getN_get hB (k := 0) (by simp)
    have e1 := getN_get hB (k := 1) (by simp)
    have e2 := getN_get hB (k := 2) (by simp)
    have e3 := getN_get hB (k := 3) (by simp)
    simp only [List.getD_cons_zero, List.getD_cons_succ] at e0 e1 e2 e3
    unfold be be4
    simp only [List.getD_cons_zero, List.getD_cons_succ, List.cons.injEq, and_true]
    omega
theorem be_bytes (s : Int) (h0 : 0 ≤ s) (h1 : s < 4294967296) : areBytesN (be s) = true := by
  unfold areBytesN be
  simp only [List.all_cons, List.all_nil, Bool.and_true, Bool.and_eq_true, decide_eq_true_eq]
  omega
theorem frameF_bytes (b : List Int) (hB : areBytesN b = true) : areBytesN (frameF b) = true :=
  areBytesN_append (areBytesN_append (vb_bytes _) hB) (be_bytes _ (sumF_range b).1 (sumF_range b).2)
theorem frameF_length (b : List Int) : (frameF b).length = (vb b.length).length + b.length + 4 := by
  unfold frameF; rw [List.length_append, List.length_append, be_length]

/-- A head of vb n is read. -/
theorem getF_vb (n : Nat) (hn : n < 18446744073709551616) (rest : List Int) : getF (vb n ++ rest) 0 = ((n : Int), ((vb n).length : Int), 0) := by
  unfold getF
  rw [if_neg (by rw [List.length_append]; omega)]
  have := getL_vb n 0 0 rest (.inl rfl) (by omega) (by omega)
  simp only [Int.toNat_zero, List.drop_zero, this]
  simp
theorem mid_parts (x y z : List Int) : mid (x ++ y ++ z) x.length ((x.length : Int) + y.length) = y := by
  unfold mid
  rw [show ((x.length : Int) + y.length).toNat = (x ++ y).length by rw [List.length_append]; omega, List.take_left, Int.toNat_natCast, List.drop_left]

theorem openF_frame (b rest : List Int) (hB : areBytesN b = true) (hl : b.length ≤ 65536) : openF (frameF b ++ rest) 0 = (b, ((frameF b).length : Int), 0) := by
  have hs := sumF_range b
  have e : frameF b ++ rest = vb b.length ++ (b ++ (be (sumF b) ++ rest)) := by unfold frameF; simp
  have hg := getF_vb b.length (by omega) (b ++ (be (sumF b) ++ rest))
  have hlen := frameF_length b
  unfold openF
  rw [e, hg]
  simp only
  rw [if_neg (by simp), if_neg (by omega), if_neg (by simp only [List.length_append, be_length]; omega)]
  have m1 : mid (vb b.length ++ (b ++ (be (sumF b) ++ rest))) ((vb b.length).length : Int) (((vb b.length).length : Int) + (b.length : Int)) = b := by
    rw [← List.append_assoc]; exact mid_parts _ _ _
  have m2 : mid (vb b.length ++ (b ++ (be (sumF b) ++ rest))) (((vb b.length).length : Int) + (b.length : Int)) (((vb b.length).length : Int) + (b.length : Int) + 4) = be (sumF b) := by
    have := mid_parts (vb b.length ++ b) (be (sumF b)) rest
    rw [be_length, List.length_append, Int.natCast_add] at this
    simp only [List.append_assoc] at this ⊢
    exact this
  rw [m1, m2, be4_be _ hs.1 hs.2, if_neg (by simp), hlen]
  simp
theorem openF_short (b : List Int) (hl : b.length ≤ 65536) (j : Nat) (hj : j < (frameF b).length) : openF ((frameF b).take j) 0 = ([], 0, 3) := by
  have hlen := frameF_length b
  by_cases h1 : j < (vb b.length).length
  · have e : (frameF b).take j = (vb b.length).take j := by unfold frameF; rw [List.append_assoc, List.take_append_of_le_length (by omega)]
    have hg := getL_short b.length 0 0 j (.inl rfl) (by omega) (by omega) h1
    have hF : (getF ((vb b.length).take j) 0).2.2 = 3 := by
      unfold getF
      rw [if_neg (by rw [List.length_take]; omega)]
      simp only [Int.toNat_zero, List.drop_zero, hg]
    unfold openF
    rw [e, if_pos (by rw [hF]; decide), hF]
  · have e : (frameF b).take j = vb b.length ++ (b ++ be (sumF b)).take (j - (vb b.length).length) := by
      unfold frameF; rw [List.append_assoc, List.take_append, List.take_of_length_le (by omega)]
    unfold openF
    rw [e, getF_vb b.length (by omega)]
    simp only
    rw [if_neg (by simp), if_neg (by omega), if_pos]
    simp only [List.length_append, List.length_take, be_length]
    omega
theorem openF_empty : openF [] 0 = ([], 0, 3) := by decide +kernel

theorem vb_of2 (v : Nat) (off : Nat) (l : List Int) (hB : areBytesN l = true) (h : getL l 0 0 = (v, off, 0)) : v < 18446744073709551616 ∧ 0 < off ∧ off ≤ l.length ∧ l = vb v ++ l.drop off ∧ off = (vb v).length := by
  obtain ⟨m, _, hv, hm, hoff, hl⟩ := getL_inv l 0 0 v off hB (by decide) h
  have e : v = m := by rw [hv]; simp
  subst e
  have hoff' : off = (vb v).length := by omega
  have hp := vb_length_pos v
  refine ⟨by have h2 : (2 : Nat) * 128 ^ (9 - 0) = 18446744073709551616 := by decide
             omega, by omega, ?_, by rw [hoff']; exact hl, hoff'⟩
  have := congrArg List.length hl
  rw [List.length_append] at this
  omega
/-- What is read was written so. -/
theorem openF_inv (d : List Int) (y : List Int) (nx : Int) (hB : areBytesN d = true) (h : openF d 0 = (y, nx, 0)) : y.length ≤ 65536 ∧ areBytesN y = true ∧ nx = ((frameF y).length : Int) ∧ ∃ rest, d = frameF y ++ rest := by
  have hg := getF_range d 0 hB
  unfold openF at h
  by_cases h0 : (getF d 0).2.2 ≠ 0
  · rw [if_pos h0] at h
    exact absurd (congrArg (fun p => p.2.2) h) h0
  have h00 : (getF d 0).2.2 = 0 := by omega
  obtain ⟨_, g1, g2, g3⟩ := hg h00
  rw [if_neg h0] at h
  by_cases h1 : 65536 < (getF d 0).1
  · rw [if_pos h1] at h; cases congrArg (fun p => p.2.2) h
  rw [if_neg h1] at h
  by_cases h2 : (d.length : Int) - (getF d 0).2.1 < (getF d 0).1 + 4
  · rw [if_pos h2] at h; cases congrArg (fun p => p.2.2) h
  rw [if_neg h2] at h
  have hF : getF d 0 = (((getL d 0 0).1 : Int), ((getL d 0 0).2.1 : Int), (getL d 0 0).2.2) := by
    unfold getF
    rw [if_neg (by omega)]
    simp
  obtain ⟨⟨v, off, er⟩, hL⟩ : ∃ r, getL d 0 0 = r := ⟨_, rfl⟩
  rw [hL] at hF
  rw [hF] at h h00 h1 h2 g1 g2 g3
  simp only at h h00 h1 h2 g1 g2 g3
  subst h00
  obtain ⟨v1, v2, v3, v4, v5⟩ := vb_of2 v off d hB hL
  by_cases h3 : be4 (mid d ((off : Int) + (v : Int)) ((off : Int) + (v : Int) + 4)) ≠ sumF (mid d (off : Int) ((off : Int) + (v : Int)))
  · rw [if_pos h3] at h; cases congrArg (fun p => p.2.2) h
  rw [if_neg h3] at h
  have hy : mid d (off : Int) ((off : Int) + (v : Int)) = y := congrArg (fun p => p.1) h
  have hnx : (off : Int) + (v : Int) + 4 = nx := congrArg (fun p => p.2.1) h
  have hyl : y.length = v := by rw [← hy]; unfold mid; rw [List.length_drop, List.length_take]; omega
  have hyB : areBytesN y = true := by rw [← hy]; unfold mid; exact areBytesN_drop (areBytesN_take hB _) _
  rw [hy] at h3
  have h3' : be4 (mid d ((off : Int) + (v : Int)) ((off : Int) + (v : Int) + 4)) = sumF y := by simpa using h3
  have hq : be (sumF y) = mid d ((off : Int) + (v : Int)) ((off : Int) + (v : Int) + 4) := by
    rw [← h3']
    exact be_be4 _ (by unfold mid; rw [List.length_drop, List.length_take]; omega) (by unfold mid; exact areBytesN_drop (areBytesN_take hB _) _)
  refine ⟨by omega, hyB, by rw [frameF_length, hyl, ← v5]; omega, d.drop (off + v + 4), ?_⟩
  unfold frameF
  rw [hyl, hq, ← hy]
  unfold mid
  rw [show (off : Int).toNat = off by omega, show ((off : Int) + (v : Int)).toNat = off + v by omega, show ((off : Int) + (v : Int) + 4).toNat = off + v + 4 by omega]
  have t1 : vb v = d.take off := by
    conv => rhs; rw [v4]
    rw [v5, List.take_left]
  rw [t1]
  have t2 : d.take off ++ (d.take (off + v)).drop off = d.take (off + v) := by
    have := List.take_append_drop off (d.take (off + v))
    rwa [List.take_take, Nat.min_eq_left (by omega)] at this
  have t3 : d.take (off + v) ++ (d.take (off + v + 4)).drop (off + v) = d.take (off + v + 4) := by
    have := List.take_append_drop (off + v) (d.take (off + v + 4))
    rwa [List.take_take, Nat.min_eq_left (by omega)] at this
  rw [t2, t3, List.take_append_drop]

/-! ### Frames in a row -/
theorem eatAll_frame (b r : List Int) (hB : areBytesN b = true) (hR : areBytesN r = true) (hl : b.length ≤ 65536) : eatAll (frameF b ++ r) = (b :: (eatAll r).1, ((frameF b).length : Int) + (eatAll r).2.1, (eatAll r).2.2) := by
  have hF := areBytesN_append (frameF_bytes b hB) hR
  have hd : (frameF b ++ r).drop (frameF b).length = r := List.drop_left
  have hlen := frameF_length b
  have e := eat_drop (frameF b ++ r) (frameF b).length (by rw [List.length_append]; omega) hF (frameF b ++ r).length 0 (by omega)
  rw [hd, Int.add_zero] at e
  have e2 : eatAll r = eat (frameF b ++ r).length r 0 := eat_fuel r hR _ _ 0 (by omega) (by omega) (by rw [List.length_append]; omega)
  rw [e2, e]
  unfold eatAll
  rw [eat, openF_frame b r hB hl]
  simp only [if_true]
  refine Prod.ext rfl (Prod.ext ?_ rfl)
  simp only
  omega
def rowOfFrames (fs : List (List Int)) : List Int := fs.flatMap frameF
theorem joined_bytes : ∀ (fs : List (List Int)), (∀ f ∈ fs, areBytesN f = true) → areBytesN (rowOfFrames fs) = true
  | [], _ => rfl
  | f :: fs, h => by
    unfold rowOfFrames
    rw [List.flatMap_cons]
    exact areBytesN_append (frameF_bytes f (h f List.mem_cons_self)) (joined_bytes fs fun g hg => h g (List.mem_cons_of_mem _ hg))
theorem eatAll_nil : eatAll [] = ([], 0, 3) := by
  unfold eatAll
  rw [eat, openF_empty]
  simp
theorem eat_joined : ∀ (fs : List (List Int)), (∀ f ∈ fs, areBytesN f = true ∧ f.length ≤ 65536) → eatAll (rowOfFrames fs) = (fs, ((rowOfFrames fs).length : Int), 3)
  | [], _ => eatAll_nil
  | f :: fs, h => by
    have hf := h f List.mem_cons_self
    have hfs := fun g hg => h g (List.mem_cons_of_mem f hg)
    have e : rowOfFrames (f :: fs) = frameF f ++ rowOfFrames fs := by unfold rowOfFrames; rw [List.flatMap_cons]
    rw [e, eatAll_frame f _ hf.1 (joined_bytes fs fun g hg => (hfs g hg).1) hf.2, eat_joined fs hfs, List.length_append]
    simp
theorem eat_prefix : ∀ (fs : List (List Int)) (j : Nat), (∀ f ∈ fs, areBytesN f = true ∧ f.length ≤ 65536) → (eatAll ((rowOfFrames fs).take j)).2.2 = 3
  | [], j, _ => by
    have : rowOfFrames [] = [] := rfl
    rw [this, List.take_nil, eatAll_nil]
  | f :: fs, j, h => by
    have hf := h f List.mem_cons_self
    have hfs := fun g hg => h g (List.mem_cons_of_mem f hg)
    have e : rowOfFrames (f :: fs) = frameF f ++ rowOfFrames fs := by unfold rowOfFrames; rw [List.flatMap_cons]
    rw [e]
    by_cases hj : j < (frameF f).length
    · rw [List.take_append_of_le_length (by omega)]
      unfold eatAll
      rw [eat, openF_short f hf.2 j hj]
      simp
    · rw [List.take_append, List.take_of_length_le (by omega), eatAll_frame f _ hf.1 (areBytesN_take (joined_bytes fs fun g hg => (hfs g hg).1) _) hf.2]
      exact eat_prefix fs _ hfs
theorem feedW_joined (fs : List (List Int)) (h : ∀ f ∈ fs, areBytesN f = true ∧ f.length ≤ 65536) : feedW (rowOfFrames fs) = [] ∧ feedE (rowOfFrames fs) = 0 ∧ feedH (rowOfFrames fs) = 1 := by
  have e := eat_joined fs h
  unfold feedW feedE feedH
  rw [e]
  simp
end Go.Proofs.Ytmbnjgnmblgjoaa.Man
