/- What the program's and the reference's reading and writing of numbers come to, over numbers alone. Conditions: rows are bytes (numbers of uint64's range), lengths as each line names them. -/
import Derived.Test.YtlpafdkpljohmaaGet
import Derived.Test.YtlpafdkpljohmaaQuadStr
import Derived.Test.YtlpafdkpljohmaaVx1
import Derived.Test.YtlpafdkpljohmaaVx2
import Derived.Test.YtlpafdkpljohmaaVx3
import Derived.Test.YtlpafdkpljohmaaVx4
namespace Go.Proofs.Ytlpafdkpljohmaa.Pure
open Go.RowKit Go.Proofs.Ytlpafdkpljohmaa.Man Go.Proofs.Ytlpafdkpljohmaa.V Go.Proofs.YtlpafdkpljohmaaW.PrintWords Go.Proofs.YtlpafdkpljohmaaW.PrintLast Go.Proofs.YtlpafdkpljohmaaW.PrintMore
set_option linter.unusedVariables false
set_option linter.unusedSimpArgs false

theorem wrap_succ (i : Nat) (h : i < 4611686018427387904) : wrap64 ((i : Int) + 1) = ((i + 1 : Nat) : Int) := by unfold wrap64; omega
theorem u64_range {s : Int} (h : (Lit.int .u64 s).wf = true) : 0 ≤ s ∧ s < 18446744073709551616 := by
  simp [Lit.wf, IntKind.min, IntKind.max, IntKind.bits, IntKind.signed] at h; omega
theorem i64_range {s : Int} (h : (Lit.int .i64 s).wf = true) : -9223372036854775808 ≤ s ∧ s < 9223372036854775808 := by
  simp [Lit.wf, IntKind.min, IntKind.max, IntKind.bits, IntKind.signed] at h; omega
theorem bytesN_wf {l : List Int} (h : ∀ x ∈ l, (Lit.int .u8 x).wf = true) : areBytesN l = true := by
  unfold areBytesN
  rw [List.all_eq_true]
  intro x hx
  have := h x hx
  simp [Lit.wf, IntKind.min, IntKind.max, IntKind.bits, IntKind.signed] at this
  simp; omega
theorem areU64_wf {l : List Int} (h : ∀ x ∈ l, (Lit.int .u64 x).wf = true) : areU64 l = true := by
  unfold areU64
  rw [List.all_eq_true]
  intro x hx
  have := u64_range (h x hx)
  simpa using this
theorem areU64_mem {l : List Int} (h : areU64 l = true) {x : Int} (hx : x ∈ l) : 0 ≤ x ∧ x < 18446744073709551616 := by
  unfold areU64 at h
  rw [List.all_eq_true] at h
  simpa using h x hx

theorem awake_f : emenderlaw01_awake.f = some true := by
  have h : (vb 300).length = 2 := by rw [vb_great (by omega), vb_small (by omega)]; rfl
  unfold emenderlaw01_awake.f quad_Len.f
  rw [if_pos (by omega)]
  show (some (((vb 300).length : Int) == 2)) = some true
  rw [h]; rfl
theorem len_f (n : Int) (h0 : 0 ≤ n) (h1 : n < 18446744073709551616) : quad_Len.f n = some ((vb n.toNat).length : Int) := by
  unfold quad_Len.f; rw [if_pos ⟨h0, h1⟩]
theorem put_f (b l : List Int) (hU : areU64 l = true) (hr : (b ++ vbs l).length ≤ 140737488355328) : quad_Put.f b l = some (b ++ vbs l) := by
  unfold quad_Put.f; rw [if_pos ⟨hU, hr⟩]
theorem get_f (b : List Int) (at_ : Int) (hB : areBytesN b = true) : quad_Get.f b at_ = some (getF b at_) := by
  unfold quad_Get.f; rw [if_pos hB]

/-! the reference's writing -/
theorem and127u (n : Nat) (hn : n < 18446744073709551616) : Go.bits .and .u64 (n : Int) 127 = ((n % 128 : Nat) : Int) := by
  have := bits_mask .u64 64 (by decide) (fun x h0 h1 => by
    have h1' : x < 18446744073709551616 := h1
    rw [IntKind.wrap_u64]; omega) 7 (by decide) (n : Int) (by omega) (show (n : Int) < 18446744073709551616 by omega)
  exact this.trans (by omega)
theorem or128u (m : Nat) (hm : m < 128) : Go.bits .or .u64 (m : Int) 128 = ((m + 128 : Nat) : Int) := by
  have := or_shl m 1 1 (by decide) (by omega) (by decide)
  simpa using this
theorem one_run (n : Nat) : ∀ (k : Nat) (b : List Int), n < 18446744073709551616 → (vb n).length < k → (b ++ vb n).length ≤ 140737488355328 → emenderref01_one.l0 k b (n : Int) = some (b ++ vb n) := by
  induction n using Nat.strongRecOn with
  | _ n ih =>
    intro k b hn hk hr
    have hp := vb_length_pos n
    obtain ⟨k, rfl⟩ : ∃ m, k = m + 1 := ⟨k - 1, by omega⟩
    simp only [List.length_append] at hr
    by_cases hs : n < 128
    · rw [emenderref01_one.l0, if_neg (by omega), if_pos (by omega), vb_small hs]
      congr 3; omega
    · rw [vb_great hs] at hk hr ⊢
      simp only [List.length_cons] at hk hr
      rw [emenderref01_one.l0, if_pos (by omega), if_pos (by omega), and127u n hn, or128u _ (by omega)]
      have e1 : ((n % 128 + 128 : Nat) : Int) % 256 = ((n % 128 + 128 : Nat) : Int) := by omega
      have e2 : (n : Int) / 128 = ((n / 128 : Nat) : Int) := by omega
      rw [e1, e2, ih (n / 128) (by omega) k _ (by omega) (by omega) (by simp only [List.length_append, List.length_cons, List.length_nil]; omega)]
      simp
theorem one_f (n : Int) (b : List Int) (k : Nat) (h0 : 0 ≤ n) (h1 : n < 18446744073709551616) (hk : 11 ≤ k) (hr : (b ++ vb n.toNat).length ≤ 140737488355328) : emenderref01_one.f k b n = some (b ++ vb n.toNat) := by
  unfold emenderref01_one.f
  have h10 := vb_le_ten (n := n.toNat) (by omega)
  have := one_run n.toNat k b (by omega) (by omega) hr
  rwa [show ((n.toNat : Nat) : Int) = n by omega] at this
theorem rlen_f (n : Int) (k : Nat) (h0 : 0 ≤ n) (h1 : n < 18446744073709551616) (hk : 11 ≤ k) : emenderref01_Len.f k n = some ((vb n.toNat).length : Int) := by
  unfold emenderref01_Len.f
  have h10 := vb_le_ten (n := n.toNat) (by omega)
  rw [one_f n [] k h0 h1 hk (by simp; omega)]
  simp
theorem vbs_take_len (l : List Int) (i : Nat) : (vbs (l.take i)).length ≤ (vbs l).length := by
  have : vbs l = vbs (l.take i) ++ vbs (l.drop i) := by unfold vbs; rw [← List.flatMap_append, List.take_append_drop]
  rw [this]; simp
theorem put_run (b l : List Int) (hU : areU64 l = true) (hr : (b ++ vbs l).length ≤ 140737488355328) (hll : l.length ≤ 9223372036854775806) (d : Nat) : ∀ (k i : Nat), i ≤ l.length → l.length - i = d → d + 11 < k → emenderref01_Put.l0 k l (b ++ vbs (l.take i)) (i : Int) = some (b ++ vbs l) := by
  induction d with
  | zero =>
    intro k i h1 h2 h3
    obtain ⟨k, rfl⟩ : ∃ m, k = m + 1 := ⟨k - 1, by omega⟩
    obtain rfl : i = l.length := by omega
    rw [emenderref01_Put.l0, if_neg (by omega), List.take_length]
  | succ d ih =>
    intro k i h1 h2 h3
    obtain ⟨k, rfl⟩ : ∃ m, k = m + 1 := ⟨k - 1, by omega⟩
    have hlt : i < l.length := by omega
    have hrd : rd l (i : Int) = l[i] := by simp [rd, List.getD, hlt]
    obtain ⟨u0, u1⟩ := areU64_mem hU (List.getElem_mem hlt)
    have a2 : l.length - (i + 1) = d := by omega
    have a3 : d + 11 < k := by omega
    have a4 : 11 ≤ k := by omega
    have hw : wrap64 ((i : Int) + 1) = ((i + 1 : Nat) : Int) := by unfold wrap64; omega
    have hv : vbs (l.take (i + 1)) = vbs (l.take i) ++ vb (l[i]).toNat := by rw [List.take_succ_eq_append_getElem hlt, vbs_snoc]
    have hle := vbs_take_len l (i + 1)
    rw [hv] at hle
    have hroom : ((b ++ vbs (l.take i)) ++ vb (l[i]).toNat).length ≤ 140737488355328 := by
      rw [List.append_assoc, ← hv]
      rw [← hv] at hle
      rw [List.length_append] at hr ⊢
      exact Nat.le_trans (Nat.add_le_add_left hle _) hr
    have b1 : (i : Int) < (l.length : Int) := Int.ofNat_lt.mpr hlt
    have b2 : (0 : Int) ≤ (i : Int) := Int.natCast_nonneg i
    rw [emenderref01_Put.l0, if_pos b1, if_pos b2, hrd, one_f _ _ k u0 u1 a4 hroom]
    simp only [Option.bind_some]
    rw [hw, List.append_assoc, ← hv, ih k (i + 1) hlt a2 a3]
theorem rput_f (b l : List Int) (k : Nat) (hU : areU64 l = true) (hr : (b ++ vbs l).length ≤ 140737488355328) (hb : b.length < 140737488355328) (hll : l.length ≤ 9223372036854775806) (hk : l.length + 11 < k) : emenderref01_Put.f k b l = some (b ++ vbs l) := by
  unfold emenderref01_Put.f
  simp only [Option.bind_some, List.nil_append, List.length_nil]
  rw [if_pos (by omega)]
  have := put_run b l hU hr hll l.length k 0 (by omega) (by omega) hk
  simpa [vbs] using this
theorem vbs_length (l : List Int) (hU : areU64 l = true) : (vbs l).length ≤ 10 * l.length := by
  induction l with
  | nil => simp [vbs]
  | cons x l ih =>
    have hx := areU64_mem hU (List.mem_cons_self)
    have hl : areU64 l = true := by unfold areU64 at *; rw [List.all_cons, Bool.and_eq_true] at hU; exact hU.2
    have h10 := vb_le_ten (n := x.toNat) (by omega)
    have := ih hl
    simp only [vbs, List.flatMap_cons, List.length_append, List.length_cons] at *
    omega

/-! the numbers and their bytes -/
theorem vb_inj {a b : Nat} (ha : a < 18446744073709551616) (hb : b < 18446744073709551616) (h : vb a = vb b) : a = b := by
  have h1 := getL_vb a 0 0 [] (.inl rfl) (by simpa using ha) (by decide)
  have h2 := getL_vb b 0 0 [] (.inl rfl) (by simpa using hb) (by decide)
  rw [h, h2] at h1
  have := (Prod.mk.inj h1).1
  simpa using this.symm
theorem vb_mono (b : Nat) : ∀ a, a ≤ b → (vb a).length ≤ (vb b).length := by
  induction b using Nat.strongRecOn with
  | _ b ih =>
    intro a h
    by_cases hs : a < 128
    · rw [vb_small hs]
      have := vb_length_pos b
      simp; omega
    · rw [vb_great hs, vb_great (show ¬ b < 128 by omega)]
      have := ih (b / 128) (by omega) (a / 128) (by omega)
      simp only [List.length_cons]; omega

end Go.Proofs.Ytlpafdkpljohmaa.Pure
