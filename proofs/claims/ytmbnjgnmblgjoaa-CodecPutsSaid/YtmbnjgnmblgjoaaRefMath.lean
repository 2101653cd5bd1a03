/- What the reference's checks of tokens, steps, entries come to: closed forms of the printed functions. Plain: no program's run. -/
import Derived.Test.YtmbnjgnmblgjoaaCheckMath
import Derived.Test.YtmbnjgnmblgjoaaKx6
namespace Go.Proofs.Ytmbnjgnmblgjoaa.Man
open Go.RowKit Go.Proofs.YtmbnjgnmblgjoaaW.PrintWords Go.Proofs.YtmbnjgnmblgjoaaW.PrintLast Go.Proofs.YtmbnjgnmblgjoaaW.PrintMore
set_option linter.unusedVariables false
set_option linter.unusedSimpArgs false

theorem rright_f (x : K.S111) (k : Nat) (hk : 1 ≤ k) : K.emenderref04_Right.f k x.f0 x.f1 x.f2 x.f3 = some (rightB x) := by
  obtain ⟨k, rfl⟩ : ∃ m, k = m + 1 := ⟨k - 1, by omega⟩
  obtain ⟨a, t, n, m⟩ := x
  unfold K.emenderref04_Right.f rightB
  simp only
  by_cases h0 : a = 0
  · subst h0
    rw [if_pos rfl]
    by_cases c0 : t = 0
    · rw [if_pos c0]
      have hp : K.emenderref04_Point.f n = some (decide (0 ≤ n ∧ n ≤ 1114111 ∧ n / 2048 ≠ 27)) := by
        unfold K.emenderref04_Point.f
        by_cases q0 : n ≥ 0
        · rw [if_pos q0]
          by_cases q1 : n ≤ 1114111
          · rw [if_pos q1]
            by_cases q2 : n < 55296
            · rw [if_pos q2]; congr 1; symm; rw [decide_eq_true_eq]; omega
            · rw [if_neg q2]; congr 1; rw [decide_eq_decide]; omega
          · rw [if_neg q1]; congr 1; symm; rw [decide_eq_false_iff_not]; omega
        · rw [if_neg q0]; congr 1; symm; rw [decide_eq_false_iff_not]; omega
      have hm : K.emenderref03_Right.f m = some (decide (0 ≤ m ∧ m ≤ 4)) := by
        unfold K.emenderref03_Right.f
        by_cases q0 : m ≥ 0
        · rw [if_pos q0]; congr 1; rw [decide_eq_decide]; omega
        · rw [if_neg q0]; congr 1; symm; rw [decide_eq_false_iff_not]; omega
      rw [hp, hm]
      simp only [Option.bind_some]
      by_cases q : 0 ≤ n ∧ n ≤ 1114111 ∧ n / 2048 ≠ 27
      · rw [if_pos (decide_eq_true q)]; congr 1; rw [Bool.eq_iff_iff]; simp only [decide_eq_true_eq]
        constructor
        · intro h; exact .inl ⟨trivial, c0, q.1, q.2.1, q.2.2, h.1, h.2⟩
        · rintro (h | h | h) <;> omega
      · rw [if_neg (by simpa using q)]; congr 1; symm; rw [decide_eq_false_iff_not]
        rintro (h | h | h)
        · exact q ⟨h.2.2.1, h.2.2.2.1, h.2.2.2.2.1⟩
        · omega
        · omega
    · rw [if_neg c0]; congr 1; symm; rw [decide_eq_false_iff_not]; omega
  · rw [if_neg h0]
    have go : K.emenderref04_Right.j0 (k + 1) a (decide (a = 1 ∨ a = 3)) a t n m = some (decide ((a = 0 ∧ t = 0 ∧ 0 ≤ n ∧ n ≤ 1114111 ∧ n / 2048 ≠ 27 ∧ 0 ≤ m ∧ m ≤ 4) ∨ (a = 2 ∧ t = 0 ∧ n = 0 ∧ m = 0) ∨ ((a = 1 ∨ a = 3) ∧ 0 < t ∧ t < 16 ∧ 0 ≤ n ∧ n < 16 ∧ m = 0))) := by
      rw [K.emenderref04_Right.j0]
      by_cases q : a = 1 ∨ a = 3
      · rw [if_pos (decide_eq_true q)]
        by_cases c1 : t ≥ 1
        · rw [if_pos c1]
          by_cases c2 : t < 16
          · rw [if_pos c2]
            by_cases c3 : n ≥ 0
            · rw [if_pos c3]
              by_cases c4 : n ≤ 15
              · rw [if_pos c4]; congr 1; rw [Bool.eq_iff_iff]; simp only [beq_iff_eq, decide_eq_true_eq]; omega
              · rw [if_neg c4]; congr 1; symm; rw [decide_eq_false_iff_not]; omega
            · rw [if_neg c3]; congr 1; symm; rw [decide_eq_false_iff_not]; omega
          · rw [if_neg c2]; congr 1; symm; rw [decide_eq_false_iff_not]; omega
        · rw [if_neg c1]; congr 1; symm; rw [decide_eq_false_iff_not]; omega
      · rw [if_neg (by simpa using q)]
        by_cases c2 : a = 2
        · rw [if_pos c2]
          by_cases c3 : t = 0
          · rw [if_pos c3]
            by_cases c4 : n = 0
            · rw [if_pos c4]; congr 1; rw [Bool.eq_iff_iff]; simp only [beq_iff_eq, decide_eq_true_eq]; omega
            · rw [if_neg c4]; congr 1; symm; rw [decide_eq_false_iff_not]; omega
          · rw [if_neg c3]; congr 1; symm; rw [decide_eq_false_iff_not]; omega
        · rw [if_neg c2]; congr 1; symm; rw [decide_eq_false_iff_not]; omega
    by_cases h1 : a = 1
    · rw [if_pos h1]
      have e : (a == 1) = decide (a = 1 ∨ a = 3) := by rw [Bool.eq_iff_iff]; simp only [beq_iff_eq, decide_eq_true_eq]; omega
      rw [e]; exact go
    · rw [if_neg h1]
      have e : (a == 3) = decide (a = 1 ∨ a = 3) := by rw [Bool.eq_iff_iff]; simp only [beq_iff_eq, decide_eq_true_eq]; omega
      rw [e]; exact go

theorem rstep_l0 (x : K.S24) (hl : x.f6.length ≤ 2048) : ∀ (d j k : Nat) (b : Bool), x.f6.length = j + d → d + 1 < k → K.emenderref09_Check.l0 k b (j : Int) x.f0 x.f1 x.f2 x.f3 x.f4 x.f5 x.f6 x.f7 = some (if b && (x.f6.drop j).all rightB then 0 else 1) := by
  intro d
  induction d with
  | zero =>
    intro j k b h hk
    obtain ⟨k, rfl⟩ : ∃ m, k = m + 1 := ⟨k - 1, by omega⟩
    rw [K.emenderref09_Check.l0, if_neg (by omega), List.drop_of_length_le (by omega)]
    cases b <;> rfl
  | succ d ih =>
    intro j k b h hk
    obtain ⟨k, rfl⟩ : ∃ m, k = m + 1 := ⟨k - 1, by omega⟩
    have e : x.f6.drop j = x.f6[j] :: x.f6.drop (j + 1) := by rw [List.drop_eq_getElem_cons]
    rw [K.emenderref09_Check.l0, if_pos (by omega), if_pos (show (0 : Int) ≤ (j : Int) by omega), rd_nat x.f6 j (by omega), rright_f _ k (by omega), Option.bind_some, wrap_succ j (by omega), ih (j + 1) k _ (by omega) (by omega), ih (j + 1) k _ (by omega) (by omega), e, List.all_cons]
    cases b
    · simp
    · simp only [if_true, Bool.true_and]
theorem rstep_j2 (k : Nat) (b : Bool) (x : K.S24) (hl : x.f6.length ≤ 2048) (hk : 2052 ≤ k) : K.emenderref09_Check.j2 k b x.f0 x.f1 x.f2 x.f3 x.f4 x.f5 x.f6 x.f7 = some (if b && x.f6.all rightB then 0 else 1) := by
  obtain ⟨k, rfl⟩ : ∃ m, k = m + 1 := ⟨k - 1, by omega⟩
  rw [K.emenderref09_Check.j2]
  have := rstep_l0 x hl x.f6.length 0 k b (by omega) (by omega)
  rw [List.drop_zero] at this
  exact this
def kindOk2 (g : Bool) (x : K.S24) : Bool :=
  if x.f0 = 1 then decide (x.f1 ≤ x.f3 ∧ x.f3 < x.f4 ∧ x.f4 ≤ x.f2 ∧ 0 ≤ x.f5 ∧ x.f5 ≤ (x.f6.length : Int) ∧ x.f7 = 0)
  else if x.f0 = 0 then x.f7 == 0 && g
  else if x.f0 = 2 ∨ x.f0 = 3 then decide (x.f1 < x.f2) && (oneMark x.f7 && ((x.f6.length : Int) == 0 && g)) else false
theorem rstep_j1 (k : Nat) (g : Bool) (x : K.S24) (hl : x.f6.length ≤ 2048) (hk : 2053 ≤ k) : K.emenderref09_Check.j1 k g x.f0 x.f1 x.f2 x.f3 x.f4 x.f5 x.f6 x.f7 = some (if kindOk2 g x && x.f6.all rightB then 0 else 1) := by
  obtain ⟨k, rfl⟩ : ∃ m, k = m + 1 := ⟨k - 1, by omega⟩
  have hj := fun b => rstep_j2 k b x hl (by omega)
  obtain ⟨a0, a1, a2, a3, a4, a5, l, a7⟩ := x
  simp only at hl hj ⊢
  rw [K.emenderref09_Check.j1]
  simp only [hj]
  unfold kindOk2
  simp only
  by_cases h0 : a0 = 0
  · rw [if_pos h0, if_neg (show ¬ a0 = 1 by omega), if_pos h0]
    cases g <;> simp
  · rw [if_neg h0, if_neg h0]
    by_cases h1 : a0 = 1
    · rw [if_pos h1, if_pos h1]
      simp only [dec_and]
      by_cases q1 : a1 ≤ a3
      · by_cases q2 : a3 < a4
        · by_cases q3 : a4 ≤ a2
          · by_cases q4 : a5 ≥ 0
            · by_cases q5 : a5 ≤ (l.length : Int)
              · simp [q1, q2, q3, q4, q5]
              · simp [q1, q2, q3, q4, q5]
            · simp [q1, q2, q3, q4]
          · simp [q1, q2, q3]
        · simp [q1, q2]
      · simp [q1]
    · rw [if_neg h1, if_neg h1]
      have two : (if g = true then (if a1 < a2 then (if (l.length : Int) = 0 then (if a7 = 1 then some (if (true && l.all rightB) = true then (0 : Int) else 1) else (if a7 = 2 then some (if (true && l.all rightB) = true then 0 else 1) else some (if (a7 == 4 && l.all rightB) = true then 0 else 1))) else some (if (false && l.all rightB) = true then 0 else 1)) else some (if (false && l.all rightB) = true then 0 else 1)) else some (if (false && l.all rightB) = true then 0 else 1)) =
          some (if (decide (a1 < a2) && (oneMark a7 && ((l.length : Int) == 0 && g)) && l.all rightB) = true then 0 else 1) := by
        cases g
        · simp
        · by_cases q1 : a1 < a2
          · by_cases q2 : (l.length : Int) = 0
            · by_cases q3 : a7 = 1
              · subst q3; simp [q1, q2, oneMark]
              · by_cases q4 : a7 = 2
                · subst q4; simp [q1, q2, oneMark]
                · simp [q1, q2, q3, q4, oneMark]
            · rw [if_pos rfl, if_pos q1, if_neg q2, (show ((l.length : Int) == 0) = false by simpa using q2)]; simp
          · simp [q1]
      by_cases h2 : a0 = 2
      · rw [if_pos h2, if_pos (show a0 = 2 ∨ a0 = 3 from .inl h2)]; exact two
      · rw [if_neg h2]
        by_cases h3 : a0 = 3
        · rw [if_pos h3, if_pos (show a0 = 2 ∨ a0 = 3 from .inr h3)]; exact two
        · rw [if_neg h3, if_neg (show ¬ (a0 = 2 ∨ a0 = 3) by omega)]
theorem rstep_f (x : K.S24) (k : Nat) (hk : 2060 ≤ k) : K.emenderref09_Check.f k x.f0 x.f1 x.f2 x.f3 x.f4 x.f5 x.f6 x.f7 = some (stepE x) := by
  obtain ⟨k, rfl⟩ : ∃ m, k = m + 1 := ⟨k - 1, by omega⟩
  unfold K.emenderref09_Check.f stepE stepOk
  by_cases h : 2048 < x.f6.length
  · rw [if_pos (by omega), if_pos h]
  · rw [if_neg (by omega), if_neg h]
    have hj := fun g => rstep_j1 k g x (by omega) (by omega)
    have e : kindOk2 (gaps0 x) x = kindOk x := rfl
    have j0t : K.emenderref09_Check.j0 (k + 1) true x.f0 x.f1 x.f2 x.f3 x.f4 x.f5 x.f6 x.f7 = some 1 := by rw [K.emenderref09_Check.j0, if_pos rfl]
    have j0f : K.emenderref09_Check.j0 (k + 1) false x.f0 x.f1 x.f2 x.f3 x.f4 x.f5 x.f6 x.f7 = some (if kindOk x && x.f6.all rightB then 0 else 1) := by
      rw [K.emenderref09_Check.j0, if_neg (by decide)]
      simp only [hj]
      rw [← e]
      unfold gaps0
      by_cases a : x.f3 = 0
      · by_cases b : x.f4 = 0
        · rw [if_pos a, if_pos b]; simp [a, b]
        · rw [if_pos a, if_neg b, show (x.f4 == 0) = false by simpa using b]; simp
      · rw [if_neg a, show (x.f3 == 0) = false by simpa using a]; simp
    by_cases a : x.f1 < 0
    · rw [if_pos a, j0t, decide_eq_false (by omega)]; rfl
    · rw [if_neg a]
      by_cases b : x.f1 > x.f2
      · rw [if_pos b, j0t, decide_eq_false (by omega)]; rfl
      · rw [if_neg b]
        by_cases c : x.f2 > 2048
        · rw [decide_eq_true c, j0t, decide_eq_false (by omega)]; rfl
        · rw [decide_eq_false c, j0f, decide_eq_true (show 0 ≤ x.f1 ∧ x.f1 ≤ x.f2 ∧ x.f2 ≤ 2048 by omega), Bool.true_and]
theorem rentryE_f (x : K.S26) (k : Nat) (hk : 2060 ≤ k) : K.emenderref16_check.f k x.f0 x.f1 x.f2.f0 x.f2.f1 x.f2.f2 x.f2.f3 x.f2.f4 x.f2.f5 x.f2.f6 x.f2.f7 = some (entryE x) := by
  unfold K.emenderref16_check.f entryE
  by_cases a : x.f0 < 0
  · rw [if_pos a, if_pos (by omega)]
  rw [if_neg a]
  by_cases b : x.f0 ≥ 4
  · rw [if_pos b, if_pos (by omega)]
  rw [if_neg b]
  by_cases c : x.f1 < 0
  · rw [if_pos c, if_pos (by omega)]
  rw [if_neg c]
  by_cases d : x.f1 > 2147483647
  · rw [if_pos d, if_pos (by omega)]
  rw [if_neg d, if_neg (by omega), rstep_f x.f2 k hk, Option.bind_some]
end Go.Proofs.Ytmbnjgnmblgjoaa.Man
