/- What the program's sums and the reference's come to, over numbers alone. Conditions: the rows are bytes and shorter than 2^47; a sum lies in uint32's range. -/
import Derived.Test.YtlpafdkpljohmaaSumMath
import Derived.Test.YtlpafdkpljohmaaQx1
import Derived.Test.YtlpafdkpljohmaaQx2
import Derived.Test.YtlpafdkpljohmaaQx3
namespace Go.Proofs.Ytlpafdkpljohmaa.Pure
open Go.RowKit Go.Proofs.Ytlpafdkpljohmaa.Man Go.Proofs.Ytlpafdkpljohmaa.Q Go.Proofs.YtlpafdkpljohmaaW.PrintWords Go.Proofs.YtlpafdkpljohmaaW.PrintLast Go.Proofs.YtlpafdkpljohmaaW.PrintMore
set_option linter.unusedVariables false
set_option linter.unusedSimpArgs false

theorem ref_run (l : List Int) (hB : areBytes l = true) (hl : l.length ≤ 140737488351232) (d : Nat) : ∀ (k i : Nat) (x y : Int), i ≤ l.length → l.length - i = d → d < k → 0 ≤ x → x < 65521 → 0 ≤ y → y < 65521 →
    emenderref02_More.l0 k l x y (i : Int) = some (joinP (U (l.drop i) x y).1 (U (l.drop i) x y).2) := by
  induction d with
  | zero =>
    intro k i x y h1 h2 h3 hx0 hx1 hy0 hy1
    obtain ⟨k, rfl⟩ : ∃ m, k = m + 1 := ⟨k - 1, by omega⟩
    obtain rfl : i = l.length := by omega
    rw [emenderref02_More.l0, if_neg (by omega), List.drop_length]
    simp only [U, joinP]
    congr 1; omega
  | succ d ih =>
    intro k i x y h1 h2 h3 hx0 hx1 hy0 hy1
    obtain ⟨k, rfl⟩ : ∃ m, k = m + 1 := ⟨k - 1, by omega⟩
    have hlt : i < l.length := by omega
    obtain ⟨c0, c1⟩ := areBytes_get hB hlt
    have hr : rd l (i : Int) = l.getD i 0 := by simp [rd]
    rw [emenderref02_More.l0, if_pos (by omega), if_pos (by omega), hr]
    have hw : wrap64 ((i : Int) + 1) = ((i + 1 : Nat) : Int) := by unfold wrap64; omega
    rw [hw, ih k (i + 1) _ _ (by omega) (by omega) (by omega) (by omega) (by omega) (by omega) (by omega), List.drop_eq_getElem_cons hlt, U, getD_lt hlt]
    rw [getD_lt hlt] at c0 c1
    have e1 : Eqp (((x + l[i] % 4294967296) % 4294967296) % 65521) (x + l[i]) := by unfold Eqp; omega
    have e2 : Eqp (((y + ((x + l[i] % 4294967296) % 4294967296) % 65521) % 4294967296) % 65521) (y + (x + l[i])) := by unfold Eqp; omega
    have := U_eqp (l.drop (i + 1)) _ _ _ _ e1 e2
    exact congrArg some (joinP_eqp this.1 this.2)
theorem ref_more (k : Nat) (s : Int) (l : List Int) (hB : areBytes l = true) (hl : l.length ≤ 140737488351232) (hk : l.length < k) (h0 : 0 ≤ s) (h1 : s < 4294967296) : emenderref02_More.f k s l = some (moreF s l) := by
  unfold emenderref02_More.f
  have eA : Int.tmod (Int.tmod s 65536) 65521 = partA s := by
    unfold partA; rw [Int.tmod_eq_emod_of_nonneg h0, Int.tmod_eq_emod_of_nonneg (by omega)]
  have eB : ((Int.tdiv s 65536) % 4294967296) % 65521 = partB s := by
    unfold partB; rw [Int.tdiv_eq_ediv_of_nonneg h0]; omega
  rw [eA, eB]
  have := ref_run l hB hl l.length k 0 (partA s) (partB s) (by omega) (by omega) hk (by unfold partA; omega) (by unfold partA; omega) (by unfold partB; omega) (by unfold partB; omega)
  rw [List.drop_zero] at this
  rw [moreF_eq]; exact this
theorem ref_of (k : Nat) (l : List Int) (hB : areBytes l = true) (hl : l.length ≤ 140737488351232) (hk : l.length < k) : emenderref02_Of.f k l = some (moreF 1 l) := by
  unfold emenderref02_Of.f; rw [ref_more k 1 l hB hl hk (by omega) (by omega)]; rfl
theorem more_f (s : Int) (l : List Int) (hB : areBytes l = true) (h0 : 0 ≤ s) (h1 : s < 4294967296) : sum_More.f s l = some (moreF s l) := by
  unfold sum_More.f; rw [if_pos ⟨hB, h0, h1⟩]
theorem of_f (l : List Int) (hB : areBytes l = true) : sum_Of.f l = some (moreF 1 l) := by
  unfold sum_Of.f; rw [more_f 1 l hB (by omega) (by omega)]; rfl
theorem awake_f : emenderlaw02_awake.f = some true := by
  unfold emenderlaw02_awake.f; rw [of_f [] rfl]; decide
theorem u32_range {s : Int} (h : (Lit.int .u32 s).wf = true) : 0 ≤ s ∧ s < 4294967296 := by
  simp [Lit.wf, IntKind.min, IntKind.max, IntKind.bits, IntKind.signed] at h; omega
theorem i64_range {s : Int} (h : (Lit.int .i64 s).wf = true) : -9223372036854775808 ≤ s ∧ s < 9223372036854775808 := by
  simp [Lit.wf, IntKind.min, IntKind.max, IntKind.bits, IntKind.signed] at h; omega

theorem parts_f (s : Int) (h0 : 0 ≤ s) (h1 : s < 4294967296) : sum_parts.f s = some (partA s, partB s) := by
  unfold sum_parts.f sum_rest_uint32.f
  rw [and_low s h0 h1]
  simp only [Option.bind_some, IntKind.wrap_u64]
  rw [Int.tmod_eq_emod_of_nonneg (by omega), Int.tmod_eq_emod_of_nonneg (by omega)]
  unfold partA partB
  congr 2 <;> omega
theorem join_f (a b : Int) (h0 : 0 ≤ a) (h2 : 0 ≤ b) : sum_join.f a b = some (joinP a b) := by
  unfold sum_join.f sum_rest_uint64.f
  simp only [Option.bind_some, IntKind.wrap_u64]
  rw [Int.tmod_eq_emod_of_nonneg h0, Int.tmod_eq_emod_of_nonneg h2]
  have e : b % 65521 * 65536 % 18446744073709551616 = b % 65521 * 65536 := by omega
  rw [e, or_join _ _ (by omega) (by omega) (by omega) (by omega)]
  unfold joinP
  congr 1; omega
/-- sum.Join, of numbers that are sums and a count that is none below 0. -/
theorem Join_f (s t n : Int) (hs : 0 ≤ s ∧ s < 4294967296) (ht : 0 ≤ t ∧ t < 4294967296) (hn : 0 ≤ n) (hn1 : n < 9223372036854775808) :
    sum_Join.f s t n = some (joinP ((partA s + 65520) + partA t) ((n % 65521) * ((partA s + 65520) % 65521) + partB s + partB t), 0) := by
  have a1 : 0 ≤ partA s ∧ partA s < 65521 ∧ 0 ≤ partB s ∧ partB s < 65521 := by unfold partA partB; omega
  have a2 : 0 ≤ partA t ∧ partA t < 65521 ∧ 0 ≤ partB t ∧ partB t < 65521 := by unfold partA partB; omega
  unfold sum_Join.f sum_rest_int.f sum_rest_uint64.f
  rw [if_neg (by omega), parts_f s hs.1 hs.2, parts_f t ht.1 ht.2]
  simp only [Option.bind_some, IntKind.wrap_u64]
  generalize partA s = x at *
  generalize partB s = y at *
  generalize partA t = z at *
  generalize partB t = v at *
  have e1 : ((x + 65521) % 18446744073709551616 - 1) % 18446744073709551616 = x + 65520 := by omega
  have e0 : n % 18446744073709551616 = n := by omega
  rw [e1, e0, Int.tmod_eq_emod_of_nonneg hn, Int.tmod_eq_emod_of_nonneg (show (0 : Int) ≤ x + 65520 by omega)]
  have hm : 0 ≤ (n % 65521) * ((x + 65520) % 65521) ∧ (n % 65521) * ((x + 65520) % 65521) ≤ 65521 * 65521 :=
    ⟨Int.mul_nonneg (by omega) (by omega), Int.mul_le_mul (by omega) (by omega) (by omega) (by omega)⟩
  generalize (n % 65521) * ((x + 65520) % 65521) = m at *
  have e2 : ((m % 18446744073709551616 + y) % 18446744073709551616 + v) % 18446744073709551616 = m + y + v := by omega
  have e3 : (x + 65520 + z) % 18446744073709551616 = x + 65520 + z := by omega
  rw [e2, e3, join_f _ _ (by omega) (by omega)]
  rfl
theorem Join_neg (s t n : Int) (hn : n < 0) : sum_Join.f s t n = some (0, 1) := by unfold sum_Join.f; rw [if_pos hn]

end Go.Proofs.Ytlpafdkpljohmaa.Pure
