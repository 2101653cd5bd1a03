/- Numbers as bytes, in plain numbers: what reading at a place comes to, and that it undoes the writing. No condition but those that each line names. -/
import Derived.Test.YtmbnjgnmblgjoaaQuad
import Derived.Laws.Bits64
import Derived.Laws.BitsLemmas
import Derived.Laws.BitsAllLaws
namespace Go.Proofs.Ytmbnjgnmblgjoaa.Man
open Go.RowKit Go.Proofs.YtmbnjgnmblgjoaaW.PrintWords Go.Proofs.YtmbnjgnmblgjoaaW.PrintLast Go.Proofs.YtmbnjgnmblgjoaaW.PrintMore
set_option linter.unusedVariables false
set_option linter.unusedSimpArgs false

/-- Reading from a number's byte i on, n read so far: the number, how many bytes (or where it failed), the error. -/
def getL : List Int → Nat → Nat → Nat × Nat × Int
  | [], i, _ => (0, i, 3)
  | c :: l, i, n => if (0 < i ∧ c = 0) ∨ (i = 9 ∧ 1 < c) then (0, i, 4) else if c < 128 then (n + c.toNat * 128 ^ i, i + 1, 0) else getL l (i + 1) (n + (c.toNat - 128) * 128 ^ i)

/-- All are bytes. -/
def areBytesN (l : List Int) : Bool := l.all fun c => decide (0 ≤ c ∧ c ≤ 255)

theorem pow128 (i : Nat) : 128 ^ (i + 1) = 128 * 128 ^ i := by rw [Nat.pow_succ, Nat.mul_comm]

/-- What was written is read. -/
theorem getL_vb (m : Nat) : ∀ (i n : Nat) (rest : List Int), (i = 0 ∨ 0 < m) → m * 128 ^ i < 18446744073709551616 → i ≤ 9 → getL (vb m ++ rest) i n = (n + m * 128 ^ i, i + (vb m).length, 0) := by
  induction m using Nat.strongRecOn with
  | _ m ih =>
    intro i n rest h0 hm hi
    by_cases hs : m < 128
    · rw [vb_small hs, List.cons_append, getL, if_neg, if_pos (by omega)]
      · simp
      · rintro (⟨h1, h2⟩ | ⟨h1, h2⟩)
        · rcases h0 with h0 | h0 <;> omega
        · subst h1; omega
    · rw [vb_great hs, List.cons_append, getL, if_neg, if_neg (by omega)]
      · have hi9 : i < 9 := by
          rcases Nat.lt_or_ge i 9 with h | h
          · exact h
          · have : i = 9 := by omega
            subst this; omega
        have hd : m / 128 * 128 ^ (i + 1) ≤ m * 128 ^ i := by
          rw [pow128, ← Nat.mul_assoc]
          exact Nat.mul_le_mul_right _ (by omega)
        rw [ih (m / 128) (by omega) (i + 1) _ rest (.inr (by omega)) (by omega) (by omega)]
        have e : (((m % 128 + 128 : Nat) : Int)).toNat - 128 = m % 128 := by omega
        rw [e]
        refine Prod.ext ?_ (Prod.ext ?_ rfl)
        · show n + m % 128 * 128 ^ i + m / 128 * 128 ^ (i + 1) = n + m * 128 ^ i
          rw [pow128, ← Nat.mul_assoc, Nat.add_assoc, ← Nat.add_mul]
          have : m % 128 + m / 128 * 128 = m := by omega
          rw [this]
        · simp only [List.length_cons]; omega
      · rintro (⟨h1, h2⟩ | ⟨h1, h2⟩)
        · omega
        · subst h1; omega

/-- A part of a number's bytes is short. -/
theorem getL_short (m : Nat) : ∀ (i n j : Nat), (i = 0 ∨ 0 < m) → m * 128 ^ i < 18446744073709551616 → i ≤ 9 → j < (vb m).length → getL ((vb m).take j) i n = (0, i + j, 3) := by
  induction m using Nat.strongRecOn with
  | _ m ih =>
    intro i n j h0 hm hi hj
    cases j with
    | zero => simp [getL]
    | succ j =>
      by_cases hs : m < 128
      · rw [vb_small hs] at hj; simp at hj
      · rw [vb_great hs] at hj ⊢
        rw [List.take_succ_cons, getL, if_neg, if_neg (by omega)]
        · have hi9 : i < 9 := by
            rcases Nat.lt_or_ge i 9 with h | h
            · exact h
            · have : i = 9 := by omega
              subst this; omega
          have hd : m / 128 * 128 ^ (i + 1) ≤ m * 128 ^ i := by
            rw [pow128, ← Nat.mul_assoc]
            exact Nat.mul_le_mul_right _ (by omega)
          rw [ih (m / 128) (by omega) (i + 1) _ j (.inr (by omega)) (by omega) (by omega) (by simpa using hj)]
          refine Prod.ext rfl (Prod.ext ?_ rfl)
          show i + 1 + j = i + (j + 1)
          omega
        · rintro (⟨h1, h2⟩ | ⟨h1, h2⟩)
          · omega
          · subst h1; omega

/-- What is read is what is written of it, and no more. -/
theorem getL_inv (l : List Int) : ∀ (i n v off : Nat), areBytesN l = true → i ≤ 9 → getL l i n = (v, off, 0) →
    ∃ m, (0 < i → 0 < m) ∧ v = n + m * 128 ^ i ∧ m < 2 * 128 ^ (9 - i) ∧ off = i + (vb m).length ∧ l = vb m ++ l.drop (vb m).length := by
  induction l with
  | nil => intro i n v off _ _ h; simp [getL] at h
  | cons c l ih =>
    intro i n v off hB hi h
    simp only [areBytesN, List.all_cons, Bool.and_eq_true, decide_eq_true_eq] at hB
    obtain ⟨⟨c0, c1⟩, hB⟩ := hB
    rw [getL] at h
    split at h
    · simp at h
    · rename_i hbad
      split at h
      · rename_i hs
        simp only [Prod.mk.injEq, and_true] at h
        obtain ⟨rfl, rfl⟩ := h
        have hv : vb c.toNat = [c] := by rw [vb_small (by omega)]; congr 1; omega
        refine ⟨c.toNat, fun h0 => ?_, rfl, ?_, by rw [hv]; rfl, by rw [hv]; rfl⟩
        · rcases Nat.eq_zero_or_pos c.toNat with h | h
          · exact absurd (.inl ⟨h0, by omega⟩) hbad
          · exact h
        · rcases Nat.lt_or_ge i 9 with h | h
          · have : 9 - i = (8 - i) + 1 := by omega
            rw [this, pow128]
            have : 128 ^ 0 ≤ 128 ^ (8 - i) := Nat.pow_le_pow_right (by decide) (Nat.zero_le _)
            have h2 : 128 * 1 ≤ 128 * 128 ^ (8 - i) := Nat.mul_le_mul_left _ this
            omega
          · obtain rfl : i = 9 := by omega
            have : ¬ 1 < c := fun hc => hbad (.inr ⟨rfl, hc⟩)
            simp; omega
      · rename_i hs
        have hi9 : i < 9 := by
          rcases Nat.lt_or_ge i 9 with h | h
          · exact h
          · exact absurd (.inr ⟨by omega, by omega⟩) hbad
        obtain ⟨m, h0, hv, hm, hoff, hl⟩ := ih (i + 1) _ v off hB (by omega) h
        have hmp := h0 (by omega)
        have hv2 : vb (m * 128 + (c.toNat - 128)) = c :: vb m := by
          rw [vb_great (by omega)]
          congr 1
          · omega
          · congr 1; omega
        refine ⟨m * 128 + (c.toNat - 128), fun _ => by omega, ?_, ?_, ?_, ?_⟩
        · rw [hv, pow128, Nat.add_mul, Nat.mul_assoc]; omega
        · have : 9 - i = (9 - (i + 1)) + 1 := by omega
          rw [this, pow128]; omega
        · rw [hv2, hoff]; simp only [List.length_cons]; omega
        · rw [hv2, List.cons_append, List.length_cons, List.drop_succ_cons]; congr 1

/-- What is put together of seven bits each. -/
theorem or_shl (n c i : Nat) (hi : i ≤ 9) (hn : n < 128 ^ i) (hc : c * 128 ^ i < 18446744073709551616) : Go.bits .or .u64 (n : Int) ((c * 128 ^ i : Nat) : Int) = ((n + c * 128 ^ i : Nat) : Int) := by
  have hp : (128 : Nat) ^ i = 2 ^ (7 * i) := by rw [Nat.pow_mul]
  rw [hp] at hn hc ⊢
  have hn64 : n < 18446744073709551616 := by
    have : 2 ^ (7 * i) ≤ 2 ^ 63 := Nat.pow_le_pow_right (by decide) (by omega)
    omega
  have h := (bits_nat .u64 64 (by decide) (fun x h0 h1 => by
    have h1' : x < 18446744073709551616 := h1
    rw [IntKind.wrap_u64]; omega) n (c * 2 ^ (7 * i)) (show n < 18446744073709551616 from hn64) (show c * 2 ^ (7 * i) < 18446744073709551616 from hc)).2
  rw [h]
  congr 1
  rw [Nat.or_comm, Nat.mul_comm c, ← Nat.two_pow_add_eq_or_of_lt hn c, Nat.add_comm]

end Go.Proofs.Ytmbnjgnmblgjoaa.Man
