/- What sums of bytes are, in plain numbers: the two parts modulo 65521, of bytes behind bytes, of two rows joined. No condition but that the numbers are bytes where that is named. -/
import Derived.Test.YtmbnjgnmblgjoaaMore
namespace Go.Proofs.Ytmbnjgnmblgjoaa.Man
open Go.RowKit Go.Proofs.YtmbnjgnmblgjoaaW.PrintWords Go.Proofs.YtmbnjgnmblgjoaaW.PrintLast
set_option linter.unusedVariables false
set_option linter.unusedSimpArgs false

/-- The two parts, not reduced. -/
def U : List Int → Int → Int → Int × Int
  | [], x, y => (x, y)
  | c :: l, x, y => U l (x + c) (y + (x + c))
def S : List Int → Int
  | [] => 0
  | c :: l => c + S l

theorem U_one (l : List Int) : ∀ x y, (U l x y).1 = x + S l := by
  induction l with
  | nil => intro x y; simp [U, S]
  | cons c l ih => intro x y; rw [U, ih, S]; omega
theorem U_two (l : List Int) : ∀ x y, (U l x y).2 = y + l.length * x + (U l 0 0).2 := by
  induction l with
  | nil => intro x y; simp [U]
  | cons c l ih =>
    intro x y
    rw [U, ih, U, ih (0 + c) (0 + (0 + c))]
    simp only [List.length_cons, Int.natCast_add, Int.add_mul, Int.mul_add, Int.natCast_one]
    omega
theorem U_append (a b : List Int) : ∀ x y, U (a ++ b) x y = U b (U a x y).1 (U a x y).2 := by
  induction a with
  | nil => intro x y; rfl
  | cons c a ih => intro x y; rw [List.cons_append, U, ih, U]

/-- Numbers that agree modulo the prime, in one word. -/
def Eqp (a b : Int) : Prop := a % 65521 = b % 65521
theorem Eqp.refl (a : Int) : Eqp a a := rfl
theorem Eqp.symm {a b : Int} (h : Eqp a b) : Eqp b a := Eq.symm h
theorem Eqp.trans {a b c : Int} (h : Eqp a b) (k : Eqp b c) : Eqp a c := Eq.trans h k
theorem Eqp.add {a b c d : Int} (h : Eqp a b) (k : Eqp c d) : Eqp (a + c) (b + d) := by unfold Eqp at *; omega
theorem Eqp.mul {a b c d : Int} (h : Eqp a b) (k : Eqp c d) : Eqp (a * c) (b * d) := by
  unfold Eqp at *
  rw [Int.mul_emod, h, k, ← Int.mul_emod]
theorem Eqp.mod (a : Int) : Eqp (a % 65521) a := by unfold Eqp; omega
theorem U_eqp (l : List Int) : ∀ x y x' y', Eqp x x' → Eqp y y' → Eqp (U l x y).1 (U l x' y').1 ∧ Eqp (U l x y).2 (U l x' y').2 := by
  induction l with
  | nil => intro x y x' y' h k; exact ⟨h, k⟩
  | cons c l ih => intro x y x' y' h k; exact ih _ _ _ _ (h.add (Eqp.refl c)) (k.add (h.add (Eqp.refl c)))
theorem mrun_eqp (l : List Int) : ∀ i x y x' y', Eqp x x' → Eqp y y' → Eqp (mrun l i x y).1 (U l x' y').1 ∧ Eqp (mrun l i x y).2 (U l x' y').2 := by
  induction l with
  | nil => intro i x y x' y' h k; exact ⟨h, k⟩
  | cons c l ih =>
    intro i x y x' y' h k
    rw [mrun, U]
    have e : Eqp (mstep x y i c).1 (x' + c) ∧ Eqp (mstep x y i c).2 (y' + (x' + c)) := by
      unfold mstep
      split
      · exact ⟨(Eqp.mod _).trans (h.add (Eqp.refl c)), (Eqp.mod _).trans (k.add (h.add (Eqp.refl c)))⟩
      · exact ⟨h.add (Eqp.refl c), k.add (h.add (Eqp.refl c))⟩
    exact ih _ _ _ _ _ e.1 e.2

/-- The sum of parts, from whatever numbers that agree. -/
theorem joinP_eqp {a b a' b' : Int} (h : Eqp a a') (k : Eqp b b') : joinP a b = joinP a' b' := by unfold joinP; rw [show a % 65521 = a' % 65521 from h, show b % 65521 = b' % 65521 from k]
theorem moreF_eq (s : Int) (l : List Int) : moreF s l = joinP (U l (partA s) (partB s)).1 (U l (partA s) (partB s)).2 := by
  unfold moreF
  have := mrun_eqp l 0 _ _ _ _ (Eqp.refl (partA s)) (Eqp.refl (partB s))
  exact joinP_eqp this.1 this.2
theorem joinP_range (a b : Int) : 0 ≤ joinP a b ∧ joinP a b < 4294967296 := by unfold joinP; omega
theorem partA_join (a b : Int) : Eqp (partA (joinP a b)) a := by unfold Eqp partA joinP; omega
theorem partB_join (a b : Int) : Eqp (partB (joinP a b)) b := by unfold Eqp partB joinP; omega
theorem moreF_range (s : Int) (l : List Int) : 0 ≤ moreF s l ∧ moreF s l < 4294967296 := joinP_range _ _
theorem joinP_inj {a b c d : Int} (h : joinP a b = joinP c d) : Eqp a c ∧ Eqp b d := by unfold joinP at h; unfold Eqp; omega

/-- A sum that goes on is that of all at once. -/
theorem moreF_append (s : Int) (a b : List Int) : moreF (moreF s a) b = moreF s (a ++ b) := by
  rw [moreF_eq s a, moreF_eq, moreF_eq s (a ++ b), U_append]
  have := U_eqp b _ _ _ _ (partA_join (U a (partA s) (partB s)).1 (U a (partA s) (partB s)).2) (partB_join (U a (partA s) (partB s)).1 (U a (partA s) (partB s)).2)
  exact joinP_eqp this.1 this.2

theorem areBytes_append {a b : List Int} (ha : areBytes a = true) (hb : areBytes b = true) : areBytes (a ++ b) = true := by
  unfold areBytes at *; rw [List.all_append, ha, hb]; rfl
theorem areBytes_nil : areBytes [] = true := rfl
theorem areBytes_wf {l : List Int} (h : ∀ x ∈ l, (Lit.int .u8 x).wf = true) : areBytes l = true := by
  unfold areBytes
  rw [List.all_eq_true]
  intro x hx
  have := h x hx
  simp [Lit.wf, IntKind.min, IntKind.max, IntKind.bits, IntKind.signed] at this
  simp; omega
theorem S_nonneg {l : List Int} (h : areBytes l = true) : 0 ≤ S l := by
  induction l with
  | nil => simp [S]
  | cons c l ih =>
    unfold areBytes at *
    simp only [List.all_cons, Bool.and_eq_true, decide_eq_true_eq] at h
    have := ih h.2
    rw [S]; omega

theorem partA_one : partA 1 = 1 := by decide
theorem partB_one : partB 1 = 0 := by decide
/-- The sums of two rows, joined. -/
theorem joined (a b : List Int) : joinP ((partA (moreF 1 a) + 65520) + partA (moreF 1 b)) (((b.length : Int) % 65521) * ((partA (moreF 1 a) + 65520) % 65521) + partB (moreF 1 a) + partB (moreF 1 b)) = moreF 1 (a ++ b) := by
  rw [moreF_eq 1 (a ++ b), U_append]
  have ha : Eqp (partA (moreF 1 a)) (U a 1 0).1 := by rw [moreF_eq, partA_one, partB_one]; exact partA_join _ _
  have hA : Eqp (partB (moreF 1 a)) (U a 1 0).2 := by rw [moreF_eq, partA_one, partB_one]; exact partB_join _ _
  have hb : Eqp (partA (moreF 1 b)) (U b 1 0).1 := by rw [moreF_eq, partA_one, partB_one]; exact partA_join _ _
  have hB : Eqp (partB (moreF 1 b)) (U b 1 0).2 := by rw [moreF_eq, partA_one, partB_one]; exact partB_join _ _
  rw [partA_one, partB_one]
  refine joinP_eqp ?_ ?_
  · rw [U_one b] at hb ⊢
    unfold Eqp at *; omega
  · have hp : Eqp (((b.length : Int) % 65521) * ((partA (moreF 1 a) + 65520) % 65521)) ((b.length : Int) * ((U a 1 0).1 + 65520)) :=
      (Eqp.mod _).mul ((Eqp.mod _).trans (ha.add (Eqp.refl _)))
    rw [U_two b 1 0] at hB
    rw [U_two b (U a 1 0).1]
    have e : (b.length : Int) * ((U a 1 0).1 + 65520) = (b.length : Int) * (U a 1 0).1 + 65521 * (b.length : Int) - (b.length : Int) := by rw [Int.mul_add]; omega
    rw [e] at hp
    generalize (b.length : Int) * (U a 1 0).1 = m at *
    unfold Eqp at *; omega

end Go.Proofs.Ytmbnjgnmblgjoaa.Man
