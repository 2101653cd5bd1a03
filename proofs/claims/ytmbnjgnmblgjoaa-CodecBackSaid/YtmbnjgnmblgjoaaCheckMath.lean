/- What the program's checks of tokens, steps, entries come to: closed forms of the printed functions. Plain: no program's run. -/
import Derived.Test.YtmbnjgnmblgjoaaKx4
import Derived.Test.YtmbnjgnmblgjoaaKinds
namespace Go.Proofs.Ytmbnjgnmblgjoaa.Man
open Go.RowKit Go.Proofs.YtmbnjgnmblgjoaaW.PrintWords Go.Proofs.YtmbnjgnmblgjoaaW.PrintLast Go.Proofs.YtmbnjgnmblgjoaaW.PrintMore
set_option linter.unusedVariables false
set_option linter.unusedSimpArgs false

/-- A token that may be. -/
def rightB (x : K.S111) : Bool := decide ((x.f0 = 0 ∧ x.f1 = 0 ∧ 0 ≤ x.f2 ∧ x.f2 ≤ 1114111 ∧ x.f2 / 2048 ≠ 27 ∧ 0 ≤ x.f3 ∧ x.f3 ≤ 4) ∨ (x.f0 = 2 ∧ x.f1 = 0 ∧ x.f2 = 0 ∧ x.f3 = 0) ∨ ((x.f0 = 1 ∨ x.f0 = 3) ∧ 0 < x.f1 ∧ x.f1 < 16 ∧ 0 ≤ x.f2 ∧ x.f2 < 16 ∧ x.f3 = 0))
theorem right_f (x : K.S111) : K.flat_Right.f x.f0 x.f1 x.f2 x.f3 = some (rightB x) := by
  obtain ⟨k, t, n, m⟩ := x
  unfold K.flat_Right.f K.mark_Right.f rightB
  simp only
  by_cases h0 : k = 0
  · subst h0
    rw [if_pos rfl]
    by_cases a : t = 0
    · rw [if_pos a]
      by_cases b : n ≥ 0
      · rw [if_pos b]
        by_cases c : n ≤ 1114111
        · rw [if_pos c]
          by_cases d : n / 2048 = 27
          · rw [if_pos d]; congr 1; symm; rw [decide_eq_false_iff_not]; omega
          · rw [if_neg d]
            by_cases e : m ≥ 0
            · rw [if_pos e]; simp only [Option.bind_some]; congr 1; rw [Bool.eq_iff_iff]; simp only [decide_eq_true_eq]
              constructor
              · intro h; exact .inl ⟨trivial, a, b, c, d, e, h⟩
              · rintro (h | h | h) <;> omega
            · rw [if_neg e]; simp only [Option.bind_some]; congr 1; symm; rw [decide_eq_false_iff_not]; omega
        · rw [if_neg c]; congr 1; symm; rw [decide_eq_false_iff_not]; omega
      · rw [if_neg b]; congr 1; symm; rw [decide_eq_false_iff_not]; omega
    · rw [if_neg a]; congr 1; symm; rw [decide_eq_false_iff_not]; omega
  · rw [if_neg h0]
    by_cases h2 : k = 2
    · subst h2
      rw [if_pos rfl]; congr 1
      rw [Bool.eq_iff_iff]; simp
    · rw [if_neg h2]
      have go : ∀ k : Int, ¬ k = 0 → ¬ k = 2 → (k = 1 ∨ k = 3) → (if t > 0 then (if t < 16 then (if n ≥ 0 then (if n < 16 then (some (m == 0)) else (some false)) else (some false)) else (some false)) else (some false)) = some (decide ((k = 0 ∧ t = 0 ∧ 0 ≤ n ∧ n ≤ 1114111 ∧ n / 2048 ≠ 27 ∧ 0 ≤ m ∧ m ≤ 4) ∨ (k = 2 ∧ t = 0 ∧ n = 0 ∧ m = 0) ∨ ((k = 1 ∨ k = 3) ∧ 0 < t ∧ t < 16 ∧ 0 ≤ n ∧ n < 16 ∧ m = 0))) := by
        intro k q0 q2 q
        by_cases a : t > 0
        · rw [if_pos a]
          by_cases b : t < 16
          · rw [if_pos b]
            by_cases c : n ≥ 0
            · rw [if_pos c]
              by_cases d : n < 16
              · rw [if_pos d]; congr 1; rw [Bool.eq_iff_iff]; simp only [beq_iff_eq, decide_eq_true_eq]; omega
              · rw [if_neg d]; congr 1; symm; rw [decide_eq_false_iff_not]; omega
            · rw [if_neg c]; congr 1; symm; rw [decide_eq_false_iff_not]; omega
          · rw [if_neg b]; congr 1; symm; rw [decide_eq_false_iff_not]; omega
        · rw [if_neg a]; congr 1; symm; rw [decide_eq_false_iff_not]; omega
      by_cases h1 : k = 1
      · rw [if_pos h1]; exact go k h0 h2 (.inl h1)
      · rw [if_neg h1]
        by_cases h3 : k = 3
        · rw [if_pos h3]; exact go k h0 h2 (.inr h3)
        · rw [if_neg h3]; congr 1; symm; rw [decide_eq_false_iff_not]; omega

theorem rd_nat (l : List K.S111) (j : Nat) (h : j < l.length) : K.rd_T111 l (j : Int) = l[j] := by
  unfold K.rd_T111
  rw [Int.toNat_natCast, List.getD_eq_getElem?_getD, List.getElem?_eq_getElem h]
  rfl
theorem wrap_succ (j : Nat) (h : j < 9223372036854775807) : wrap64 ((j : Int) + 1) = ((j + 1 : Nat) : Int) := by unfold wrap64; omega
theorem doc_l0 (l : List K.S111) (hl : l.length ≤ 2048) : ∀ (d j k : Nat), l.length = j + d → d < k → K.codec_doc.l0 k l (l.length : Int) (j : Int) = some (if (l.drop j).all rightB then 0 else 1) := by
  intro d
  induction d with
  | zero =>
    intro j k h hk
    obtain ⟨k, rfl⟩ : ∃ m, k = m + 1 := ⟨k - 1, by omega⟩
    rw [K.codec_doc.l0, if_neg (by omega), List.drop_of_length_le (by omega)]
    rfl
  | succ d ih =>
    intro j k h hk
    obtain ⟨k, rfl⟩ : ∃ m, k = m + 1 := ⟨k - 1, by omega⟩
    rw [K.codec_doc.l0, if_pos (by omega), if_pos (by omega), if_pos (by omega), right_f, Option.bind_some, rd_nat l j (by omega), wrap_succ j (by omega), ih (j + 1) k (by omega) (by omega)]
    have e : l.drop j = l[j] :: l.drop (j + 1) := by rw [List.drop_eq_getElem_cons]
    rw [e, List.all_cons]
    by_cases hr : rightB l[j] = true
    · rw [if_pos hr, hr, Bool.true_and]
    · rw [if_neg hr]
      have : rightB l[j] = false := by simpa using hr
      rw [this, Bool.false_and]
      rfl
/-- Why tokens can't be written. -/
def docE (l : List K.S111) : Int := if 2048 < l.length then 2 else if l.all rightB then 0 else 1
theorem doc_f (l : List K.S111) : K.codec_doc.f 2050 l = some (docE l) := by
  unfold K.codec_doc.f docE
  by_cases h : 2048 < l.length
  · rw [if_pos (by omega), if_pos h]
  · rw [if_neg (by omega), if_neg h]
    have := doc_l0 l (by omega) l.length 0 2050 (by omega) (by omega)
    rw [List.drop_zero] at this
    exact this

/-! ### Steps -/
def oneMark (m : Int) : Bool := m == 1 || (m == 2 || m == 4)
theorem place1 (k : Nat) : K.mark_place.f (k + 4) 1 = some 0 ∧ K.mark_place.f (k + 4) 2 = some 1 ∧ K.mark_place.f (k + 4) 4 = some 2 := by
  have s0 : shl .i64 1 0 = 1 := by decide +kernel
  have s1 : shl .i64 1 1 = 2 := by decide +kernel
  have s2 : shl .i64 1 2 = 4 := by decide +kernel
  have w0 : wrap64 (1 : Int) = 1 := by decide +kernel
  have w1 : wrap64 (2 : Int) = 2 := by decide +kernel
  unfold K.mark_place.f
  simp [K.mark_place.l0, s0, s1, s2, w0, w1]
theorem marks_out (m : Int) (h : m < 0 ∨ 4 < m) (k : Nat) : K.mark_List.f (k + 9) m = some [] := by
  have s0 : shl .i64 1 0 = 1 := by decide +kernel
  have s1 : shl .i64 1 1 = 2 := by decide +kernel
  have s2 : shl .i64 1 2 = 4 := by decide +kernel
  have w0 : wrap64 (1 : Int) = 1 := by decide +kernel
  have w1 : wrap64 (2 : Int) = 2 := by decide +kernel
  have w2 : wrap64 (3 : Int) = 3 := by decide +kernel
  have hr : K.mark_Right.f m = some false := by
    unfold K.mark_Right.f
    by_cases a : m ≥ 0
    · rw [if_pos a]; congr 1; rw [decide_eq_false_iff_not]; omega
    · rw [if_neg a]
  have hh : ∀ j : Nat, K.mark_Has.f (j + 4) m 1 = some false ∧ K.mark_Has.f (j + 4) m 2 = some false ∧ K.mark_Has.f (j + 4) m 4 = some false := by
    intro j
    obtain ⟨p0, p1, p2⟩ := place1 j
    unfold K.mark_Has.f K.mark_may.f
    simp [p0, p1, p2, hr]
  have h8 := (hh (k + 4)).1
  have h7 := (hh (k + 3)).2.1
  have h6 := (hh (k + 2)).2.2
  unfold K.mark_List.f
  simp [K.mark_List.l0, s0, s1, s2, w0, w1, w2, h8, h7, h6]
theorem marks_in (m : Fin 5) : K.mark_List.f 9 (m.val : Int) = some (if m.val = 1 then [1] else if m.val = 2 then [2] else if m.val = 3 then [1, 2] else if m.val = 4 then [4] else []) := by
  revert m
  decide +kernel
theorem LeO.le {α : Type} {f : Nat → Option α} (h : ∀ k, LeO (f k) (f (k + 1))) {a b : Nat} (hab : a ≤ b) {r : α} (hr : f a = some r) : f b = some r := by
  induction hab with
  | refl => exact hr
  | step _ ih => exact h _ _ ih
theorem marks_len (m : Int) (k : Nat) (hk : 9 ≤ k) : ∃ l, K.mark_List.f k m = some l ∧ ((l.length : Int) = 1 ↔ oneMark m = true) := by
  by_cases h : m < 0 ∨ 4 < m
  · obtain ⟨j, rfl⟩ : ∃ j, k = j + 9 := ⟨k - 9, by omega⟩
    refine ⟨[], marks_out m h j, ?_⟩
    unfold oneMark
    simp
    omega
  · obtain ⟨n, hn⟩ : ∃ n : Fin 5, m = (n.val : Int) := ⟨⟨m.toNat, by omega⟩, by show m = (m.toNat : Int); omega⟩
    refine ⟨_, LeO.le (f := fun k => K.mark_List.f k m) (fun k => K.mark_List.mono m k) hk (by show K.mark_List.f 9 m = _; rw [hn]; exact marks_in n), ?_⟩
    rw [hn]
    unfold oneMark
    revert n
    intro n
    match n with
    | 0 => intros; decide
    | 1 => intros; decide
    | 2 => intros; decide
    | 3 => intros; decide
    | 4 => intros; decide

theorem step_l0 (l : List K.S111) (hl : l.length ≤ 2048) : ∀ (d j k : Nat) (b : Bool), l.length = j + d → d < k → K.step_Check.l0 k b l (l.length : Int) (j : Int) = some (if b && (l.drop j).all rightB then 0 else 1) := by
  intro d
  induction d with
  | zero =>
    intro j k b h hk
    obtain ⟨k, rfl⟩ : ∃ m, k = m + 1 := ⟨k - 1, by omega⟩
    rw [K.step_Check.l0, if_neg (by omega), List.drop_of_length_le (by omega)]
    cases b <;> rfl
  | succ d ih =>
    intro j k b h hk
    obtain ⟨k, rfl⟩ : ∃ m, k = m + 1 := ⟨k - 1, by omega⟩
    have e : l.drop j = l[j] :: l.drop (j + 1) := by rw [List.drop_eq_getElem_cons]
    rw [K.step_Check.l0, if_pos (by omega), if_pos (by omega), if_pos (by omega), right_f, Option.bind_some, rd_nat l j (by omega), wrap_succ j (by omega), ih (j + 1) k _ (by omega) (by omega), ih (j + 1) k _ (by omega) (by omega), e, List.all_cons]
    cases b
    · simp
    · simp only [if_true, Bool.true_and]
/-- A step that may be. -/
def gaps0 (x : K.S24) : Bool := x.f3 == 0 && (x.f4 == 0 && x.f5 == 0)
def kindOk (x : K.S24) : Bool :=
  if x.f0 = 1 then decide (x.f1 ≤ x.f3 ∧ x.f3 < x.f4 ∧ x.f4 ≤ x.f2 ∧ 0 ≤ x.f5 ∧ x.f5 ≤ (x.f6.length : Int) ∧ x.f7 = 0)
  else if x.f0 = 0 then x.f7 == 0 && gaps0 x
  else if x.f0 = 2 ∨ x.f0 = 3 then decide (x.f1 < x.f2) && (oneMark x.f7 && ((x.f6.length : Int) == 0 && gaps0 x)) else false
def stepOk (x : K.S24) : Bool := decide (0 ≤ x.f1 ∧ x.f1 ≤ x.f2 ∧ x.f2 ≤ 2048) && (kindOk x && x.f6.all rightB)
def stepE (x : K.S24) : Int := if 2048 < x.f6.length then 2 else if stepOk x then 0 else 1

theorem step_j2 (k : Nat) (b : Bool) (a0 a1 a2 a3 a4 a5 : Int) (l : List K.S111) (a7 : Int) (hl : l.length ≤ 2048) (hk : 2050 ≤ k) : K.step_Check.j2 k b a0 a1 a2 a3 a4 a5 l a7 = some (if b && l.all rightB then 0 else 1) := by
  obtain ⟨k, rfl⟩ : ∃ m, k = m + 1 := ⟨k - 1, by omega⟩
  rw [K.step_Check.j2]
  have := step_l0 l hl l.length 0 k b (by omega) (by omega)
  rw [List.drop_zero] at this
  exact this
theorem step_j1 (k : Nat) (b : Bool) (a0 a1 a2 a3 a4 a5 : Int) (l : List K.S111) (a7 c0 c1 c2 c3 c4 c5 c7 : Int) (hl : l.length ≤ 2048) (hk : 2051 ≤ k) : K.step_Check.j1 k b a0 a1 a2 a3 a4 a5 l a7 c0 c1 c2 c3 c4 c5 c7 = some (if (b && (c3 == 0 && (c4 == 0 && c5 == 0))) && l.all rightB then 0 else 1) := by
  obtain ⟨k, rfl⟩ : ∃ m, k = m + 1 := ⟨k - 1, by omega⟩
  rw [K.step_Check.j1]
  simp only [step_j2 k _ _ _ _ _ _ _ _ _ hl (show 2050 ≤ k by omega)]
  cases b
  · simp
  · by_cases h3 : c3 = 0
    · by_cases h4 : c4 = 0
      · simp [h3, h4]
      · simp [h3, h4]
    · simp [h3]
theorem dec_and (p q : Prop) [Decidable p] [Decidable q] : decide (p ∧ q) = (decide p && decide q) := by
  by_cases p <;> by_cases q <;> simp_all
theorem step_j0 (k : Nat) (b : Bool) (x : K.S24) (c0 c1 c2 : Int) (hl : x.f6.length ≤ 2048) (hk : 2052 ≤ k) :
    K.step_Check.j0 k b x.f0 x.f1 x.f2 x.f3 x.f4 x.f5 x.f6 x.f7 c0 c1 c2 x.f3 x.f4 x.f5 x.f7 = some (if (b && kindOk x) && x.f6.all rightB then 0 else 1) := by
  obtain ⟨k, rfl⟩ : ∃ m, k = m + 1 := ⟨k - 1, by omega⟩
  obtain ⟨a0, a1, a2, a3, a4, a5, l, a7⟩ := x
  simp only at hl ⊢
  obtain ⟨ml, hm, hmi⟩ := marks_len a7 k (by omega)
  rw [K.step_Check.j0]
  simp only [step_j1 k _ _ _ _ _ _ _ _ _ _ _ _ _ _ _ _ hl (show 2051 ≤ k by omega), hm, Option.bind_some]
  unfold kindOk gaps0
  simp only
  by_cases h1 : a0 = 1
  · rw [if_pos h1, if_pos h1]
    cases b
    · simp
    · simp only [dec_and]
      by_cases q1 : a1 ≤ a3
      · by_cases q2 : a3 < a4
        · by_cases q3 : a4 ≤ a2
          · by_cases q4 : a5 ≥ 0
            · by_cases q5 : a5 ≤ (l.length : Int)
              · simp [q1, q2, q3, q4, q5]
              · simp [q1, q2, q3, q4, q5]
            · simp [q1, q2, q3, q4]
          · simp [q1, q2, q3]
        · simp [q1, q2]
      · simp [q1]
  · rw [if_neg h1, if_neg h1]
    by_cases h0 : a0 = 0
    · rw [if_pos h0, if_pos h0]
      cases b
      · simp
      · simp
    · rw [if_neg h0, if_neg h0]
      have two : ∀ b : Bool, (if b = true then if a1 < a2 then if (ml.length : Int) = 1 then some (if ((l.length : Int) == 0 && (a3 == 0 && (a4 == 0 && a5 == 0)) && l.all rightB) = true then (0 : Int) else 1) else some (if (false && (a3 == 0 && (a4 == 0 && a5 == 0)) && l.all rightB) = true then 0 else 1)
          else some (if (false && (a3 == 0 && (a4 == 0 && a5 == 0)) && l.all rightB) = true then 0 else 1) else some (if (false && (a3 == 0 && (a4 == 0 && a5 == 0)) && l.all rightB) = true then 0 else 1)) =
          some (if (b && (decide (a1 < a2) && (oneMark a7 && ((l.length : Int) == 0 && (a3 == 0 && (a4 == 0 && a5 == 0))))) && l.all rightB) = true then 0 else 1) := by
        intro b
        cases b
        · simp
        · by_cases q1 : a1 < a2
          · by_cases q2 : (ml.length : Int) = 1
            · have := hmi.1 q2
              simp [q1, q2, this]
            · have : oneMark a7 = false := by rcases Bool.eq_false_or_eq_true (oneMark a7) with h | h; exact absurd (hmi.2 h) q2; exact h
              simp [q1, q2, this]
          · simp [q1]
      by_cases h2 : a0 = 2
      · rw [if_pos h2, if_pos (show a0 = 2 ∨ a0 = 3 from .inl h2)]; exact two b
      · rw [if_neg h2]
        by_cases h3 : a0 = 3
        · rw [if_pos h3, if_pos (show a0 = 2 ∨ a0 = 3 from .inr h3)]; exact two b
        · rw [if_neg h3, if_neg (show ¬ (a0 = 2 ∨ a0 = 3) by omega)]
          simp
theorem step_f (x : K.S24) : K.step_Check.f 2060 x.f0 x.f1 x.f2 x.f3 x.f4 x.f5 x.f6 x.f7 = some (stepE x) := by
  unfold K.step_Check.f stepE stepOk
  by_cases h : 2048 < x.f6.length
  · rw [if_pos (by omega), if_pos h]
  · rw [if_neg (by omega), if_neg h]
    simp only [step_j0 2060 _ x _ _ _ (show x.f6.length ≤ 2048 by omega) (by decide)]
    by_cases a : x.f1 ≥ 0
    · by_cases b : x.f1 ≤ x.f2
      · simp only [dec_and]
        simp [a, b, Bool.and_assoc]
      · simp [a, b]
    · simp [a]
/-- Why an entry can't be written. -/
def entryE (x : K.S26) : Int := if x.f0 < 0 ∨ x.f1 < 0 ∨ 4 ≤ x.f0 ∨ 2147483647 < x.f1 then 1 else stepE x.f2
theorem entry_f (x : K.S26) : K.codec_entry.f 2060 x.f0 x.f1 x.f2.f0 x.f2.f1 x.f2.f2 x.f2.f3 x.f2.f4 x.f2.f5 x.f2.f6 x.f2.f7 = some (entryE x) := by
  unfold K.codec_entry.f entryE
  have hmn : (mn x.f0 x.f1) < 0 ↔ x.f0 < 0 ∨ x.f1 < 0 := by unfold mn; split <;> omega
  by_cases a : x.f0 < 0 ∨ x.f1 < 0
  · rw [if_pos (hmn.2 a), if_pos (by omega)]
  · rw [if_neg (fun h => a (hmn.1 h))]
    by_cases b : x.f0 ≥ 4
    · rw [if_pos b, if_pos (by omega)]
    · rw [if_neg b]
      by_cases c : x.f1 > 2147483647
      · rw [if_pos c, if_pos (by omega)]
      · rw [if_neg c, if_neg (by omega), step_f x.f2, Option.bind_some]
end Go.Proofs.Ytmbnjgnmblgjoaa.Man
