/- The reference's reading of numbers, and of all numbers, over numbers alone: as the program's. Conditions: rows are bytes, no longer than 1048576. -/
import Derived.Test.YtlpafdkpljohmaaQuadRef
namespace Go.Proofs.Ytlpafdkpljohmaa.Pure
open Go.RowKit Go.Proofs.Ytlpafdkpljohmaa.Man Go.Proofs.Ytlpafdkpljohmaa.V Go.Proofs.YtlpafdkpljohmaaW.PrintWords Go.Proofs.YtlpafdkpljohmaaW.PrintLast Go.Proofs.YtlpafdkpljohmaaW.PrintMore
set_option linter.unusedVariables false
set_option linter.unusedSimpArgs false

theorem shl_at (x : Int) (i : Nat) (hi : i ≤ 9) : shl .u64 x (wrap64 (7 * (i : Int))) = IntKind.u64.wrap (x * 2 ^ (7 * i)) := by
  have hw : wrap64 (7 * (i : Int)) = ((7 * i : Nat) : Int) := by unfold wrap64; omega
  rw [hw]
  unfold shl
  rw [Int.toNat_natCast, Nat.min_eq_left (show 7 * i ≤ IntKind.u64.bits by show 7 * i ≤ 64; omega)]
theorem put_together (n i : Nat) (c : Int) (hi : i ≤ 9) (hn : n < 128 ^ i) (h0 : 0 ≤ c) (h1 : c ≤ 255) (m : Nat) (hm : c % 128 = (m : Int)) (hroom : m * 128 ^ i < 18446744073709551616) :
    Go.bits .or .u64 (n : Int) (shl .u64 (IntKind.u64.wrap (Go.bits .and .u8 c 127)) (wrap64 (7 * (i : Int)))) = ((n + m * 128 ^ i : Nat) : Int) := by
  have hmm : m < 128 := by omega
  have e : IntKind.u64.wrap (c % 128) = (m : Int) := by rw [hm, IntKind.wrap_u64]; omega
  rw [shl_at _ i hi, and127 c h0 h1, e, shl_wrap (m : Int) m i rfl hroom, or_shl n m i hi hn hroom]

theorem wadd (p i : Nat) (h : p + i < 4611686018427387904) : wrap64 ((p : Int) + (i : Int)) = ((p + i : Nat) : Int) := by unfold wrap64; omega
theorem w7 (i : Nat) (h : i ≤ 9) : 0 ≤ wrap64 (7 * (i : Int)) := by
  have hw : wrap64 (7 * (i : Int)) = ((7 * i : Nat) : Int) := by unfold wrap64; omega
  rw [hw]; exact Int.natCast_nonneg _
theorem rd_at (b : List Int) (q : Nat) (h : q < b.length) : rd b (q : Int) = b[q] := by unfold rd; rw [Int.toNat_natCast]; simp [List.getD, h]
def sh (p : Nat) (r : Nat × Nat × Int) : Int × Int × Int := ((r.1 : Int), (p : Int) + (r.2.1 : Int), r.2.2)

theorem rget_run (b : List Int) (hB : areBytesN b = true) (p : Nat) (hlen : b.length ≤ 140737488351232) (d : Nat) : ∀ (k i n : Nat), 9 - i = d → i ≤ 9 → p + i ≤ b.length → n < 128 ^ i → 2 * d + 2 < k →
    emenderref01_Get.l0 k b (p : Int) (n : Int) (i : Int) = some (sh p (getL ((b.drop p).drop i) i n)) := by
  induction d with
  | zero =>
    intro k i n h1 h2 h3 hn hk
    obtain rfl : i = 9 := by omega
    obtain ⟨k, rfl⟩ : ∃ m, k = m + 1 := ⟨k - 1, by omega⟩
    obtain ⟨k, rfl⟩ : ∃ m, k = m + 1 := ⟨k - 1, by omega⟩
    rw [emenderref01_Get.l0, wadd p 9 (by omega), if_pos (by decide)]
    by_cases hge : p + 9 = b.length
    · rw [if_pos (by omega)]
      have : (b.drop p).drop 9 = [] := by rw [List.drop_drop]; exact List.drop_eq_nil_of_le (by omega)
      rw [this, getL, sh]
      have e : (b.length : Int) = (p : Int) + ((9 : Nat) : Int) := by omega
      rw [e]; rfl
    · have hlt : p + 9 < b.length := by omega
      have hrd := rd_at b (p + 9) hlt
      obtain ⟨c0, c1⟩ := getN_get hB hlt
      have hgd : b.getD (p + 9) 0 = b[p + 9] := by simp [List.getD, hlt]
      rw [hgd] at c0 c1
      have hdd : (b.drop p).drop 9 = b[p + 9] :: (b.drop p).drop 10 := by
        rw [List.drop_drop, List.drop_drop, List.drop_eq_getElem_cons (show p + 9 < b.length from hlt)]
      rw [if_neg (by omega), if_pos (by omega), if_pos (by omega), hrd, hdd, getL]
      generalize b[p + 9] = c at *
      clear hrd hgd hdd
      have e9 : (((9 : Nat) : Int) = 9) = True := by simp
      by_cases hz : c = 0
      · rw [if_pos hz, if_pos (by decide), emenderref01_Get.j2, if_pos rfl, if_pos (.inl ⟨by decide, hz⟩), wadd p 9 (by omega), sh]
        rfl
      · rw [if_neg hz, if_pos (by decide)]
        by_cases hg : c > 1
        · rw [decide_eq_true hg, emenderref01_Get.j2, if_pos rfl, if_pos (.inr ⟨rfl, hg⟩), wadd p 9 (by omega), sh]
          rfl
        · obtain rfl : c = 1 := by omega
          have hr := put_together n 9 1 (by decide) hn (by decide) (by decide) 1 (by decide) (by decide)
          rw [decide_eq_false hg, emenderref01_Get.j2, if_neg (by decide), if_pos (w7 9 (by decide)), if_pos (by decide), hr, if_neg (by simp), if_pos (by decide), wadd p 9 (by omega), sh, wrap_succ (p + 9) (by omega)]
          have e : ((p + 9 + 1 : Nat) : Int) = (p : Int) + ((9 + 1 : Nat) : Int) := by omega
          rw [e]; rfl
  | succ d ih =>
    intro k i n h1 h2 h3 hn hk
    obtain ⟨k, rfl⟩ : ∃ m, k = m + 1 := ⟨k - 1, by omega⟩
    obtain ⟨k, rfl⟩ : ∃ m, k = m + 1 := ⟨k - 1, by omega⟩
    have hi9 : i < 9 := by omega
    rw [emenderref01_Get.l0, wadd p i (by omega), if_pos (by omega)]
    by_cases hge : p + i = b.length
    · rw [if_pos (by omega)]
      have : (b.drop p).drop i = [] := by rw [List.drop_drop]; exact List.drop_eq_nil_of_le (by omega)
      rw [this, getL, sh]
      have e : (b.length : Int) = (p : Int) + (i : Int) := by omega
      rw [e]; rfl
    · have hlt : p + i < b.length := by omega
      have hrd := rd_at b (p + i) hlt
      obtain ⟨c0, c1⟩ := getN_get hB hlt
      have hgd : b.getD (p + i) 0 = b[p + i] := by simp [List.getD, hlt]
      rw [hgd] at c0 c1
      have hdd : (b.drop p).drop i = b[p + i] :: (b.drop p).drop (i + 1) := by
        rw [List.drop_drop, List.drop_drop, List.drop_eq_getElem_cons (show p + i < b.length from hlt)]
        rfl
      have ih' := fun n' hn' => ih k (i + 1) n' (by omega) (by omega) (by omega) hn' (by omega)
      rw [if_neg (by omega), if_pos (by omega), if_pos (by omega), hrd, hdd, getL]
      generalize b[p + i] = c at *
      clear hrd hgd hdd ih
      have hni : ¬ ((i : Int) = 9) := by omega
      have fin : ∀ (hbad : ¬ ((0 < i ∧ c = 0) ∨ (i = 9 ∧ 1 < c))), emenderref01_Get.j2 (k + 1) b (p : Int) (n : Int) (i : Int) c false = some (sh p (if (0 < i ∧ c = 0) ∨ (i = 9 ∧ 1 < c) then (0, i, 4) else if c < 128 then (n + c.toNat * 128 ^ i, i + 1, 0) else getL ((b.drop p).drop (i + 1)) (i + 1) (n + (c.toNat - 128) * 128 ^ i))) := by
        intro hbad
        rw [emenderref01_Get.j2, if_neg (by decide), if_pos (w7 i h2), if_neg hbad]
        by_cases hs : c < 128
        · have hr := put_together n i c h2 hn c0 c1 c.toNat (by omega) (room_at _ _ hi9 (by omega))
          rw [if_pos hs, hr, wadd p i (by omega), wrap_succ (p + i) (by omega), if_pos hs, sh]
          have : ((p + i + 1 : Nat) : Int) = (p : Int) + ((i + 1 : Nat) : Int) := by omega
          rw [this]
        · have hr := put_together n i c h2 hn c0 c1 (c.toNat - 128) (by omega) (room_at _ _ hi9 (by omega))
          rw [if_neg hs, hr, wrap_succ i (by omega), if_neg hs]
          refine ih' _ ?_
          have h2 : (c.toNat - 128 + 1) * 128 ^ i ≤ 128 * 128 ^ i := Nat.mul_le_mul_right _ (by omega)
          rw [pow128]
          rw [Nat.add_mul] at h2
          omega
      by_cases hz : c = 0
      · rw [if_pos hz]
        by_cases h0 : 0 < i
        · rw [if_pos (by omega), emenderref01_Get.j2, if_pos rfl, if_pos (.inl ⟨h0, hz⟩), wadd p i (by omega), sh]
          have e : ((p + i : Nat) : Int) = (p : Int) + (i : Int) := by omega
          rw [e]; rfl
        · rw [if_neg (by omega), if_neg hni]
          exact fin (by omega)
      · rw [if_neg hz, if_neg hni]
        exact fin (by omega)
theorem rget_f (b : List Int) (hB : areBytesN b = true) (p : Int) (k : Nat) (hlen : b.length ≤ 140737488351232) (hk : 30 ≤ k) : emenderref01_Get.f k b p = some (getF b p) := by
  obtain ⟨k, rfl⟩ : ∃ m, k = m + 1 := ⟨k - 1, by omega⟩
  unfold emenderref01_Get.f getF
  by_cases h0 : p < 0
  · rw [if_pos h0, emenderref01_Get.j0, if_pos rfl, if_pos (.inl h0)]
  · rw [if_neg h0]
    by_cases h1 : p > (b.length : Int)
    · rw [decide_eq_true h1, emenderref01_Get.j0, if_pos rfl, if_pos (.inr h1)]
    · rw [decide_eq_false h1, emenderref01_Get.j0, if_neg (by decide), if_neg (by omega)]
      obtain ⟨q, rfl⟩ : ∃ q : Nat, p = (q : Int) := ⟨p.toNat, by omega⟩
      have := rget_run b hB q hlen 9 k 0 0 (by decide) (by decide) (by omega) (by decide) (by omega)
      rw [List.drop_zero] at this
      exact this

theorem getF_at (b : List Int) (p : Nat) (hp : p ≤ b.length) : getF b (p : Int) = sh p (getL (b.drop p) 0 0) := by
  unfold getF
  rw [if_neg (by omega), Int.toNat_natCast]; rfl
theorem vb_of (v : Nat) (off : Nat) (l : List Int) (hB : areBytesN l = true) (h : getL l 0 0 = (v, off, 0)) : v < 18446744073709551616 ∧ 0 < off ∧ off ≤ l.length ∧ l = vb v ++ l.drop off ∧ off = (vb v).length := by
  obtain ⟨m, _, hv, hm, hoff, hl⟩ := getL_inv l 0 0 v off hB (by decide) h
  have e : v = m := by rw [hv]; simp
  subst e
  have hoff' : off = (vb v).length := by omega
  have hp := vb_length_pos v
  refine ⟨by have h2 : (2 : Nat) * 128 ^ (9 - 0) = 18446744073709551616 := by decide
             omega, by omega, ?_, by rw [hoff']; exact hl, hoff'⟩
  have := congrArg List.length hl
  rw [List.length_append] at this
  omega
theorem areU64_append {a b : List Int} (ha : areU64 a = true) (hb : areU64 b = true) : areU64 (a ++ b) = true := by
  unfold areU64 at *; rw [List.all_append, ha, hb]; rfl

/-- All numbers of a row: the program's and the reference's answer; where there is no error the numbers' bytes are the row. -/
theorem all_run (b : List Int) (hB : areBytesN b = true) (hlen : b.length ≤ 1048576) (d : Nat) : ∀ (k at_ : Nat) (acc : List Int), at_ ≤ b.length → b.length - at_ = d → d + 31 < k → acc.length + d ≤ 1048576 →
    ∃ ys r2 r3, quad_All.l0 k b acc (at_ : Int) = some (ys, r2, r3) ∧ emenderref01_All.l0 k b acc (at_ : Int) = some (ys, r2, r3) ∧ ys.length ≤ acc.length + d ∧ (r3 = 0 → r2 = (b.length : Int) ∧ ∃ zs, ys = acc ++ zs ∧ areU64 zs = true ∧ vbs zs = b.drop at_) := by
  induction d using Nat.strongRecOn with
  | _ d ih =>
    intro k at_ acc h1 h2 hk hacc
    obtain ⟨k, rfl⟩ : ∃ m, k = m + 1 := ⟨k - 1, by omega⟩
    by_cases hend : at_ = b.length
    · subst hend
      refine ⟨acc, (b.length : Int), 0, ?_, ?_, by omega, fun _ => ⟨rfl, [], by simp, rfl, by rw [List.drop_length]; rfl⟩⟩
      · rw [quad_All.l0, if_neg (by omega)]
      · rw [emenderref01_All.l0, if_neg (by omega)]
    · have hlt : at_ < b.length := by omega
      have hlt' : (at_ : Int) < (b.length : Int) := Int.ofNat_lt.mpr hlt
      have hg : quad_Get.f b (at_ : Int) = some (sh at_ (getL (b.drop at_) 0 0)) := by rw [get_f b _ hB, getF_at b at_ h1]
      have hr : emenderref01_Get.f k b (at_ : Int) = some (sh at_ (getL (b.drop at_) 0 0)) := by rw [rget_f b hB _ k (by omega) (by omega), getF_at b at_ h1]
      rw [quad_All.l0, emenderref01_All.l0, if_pos hlt', if_pos hlt', hg, hr]
      simp only [Option.bind_some]
      obtain ⟨⟨v, off, e⟩, hge⟩ : ∃ r, getL (b.drop at_) 0 0 = r := ⟨_, rfl⟩
      rw [hge]
      by_cases he : e = 0
      · subst he
        obtain ⟨hv, hoff, hoff2, hsplit, hoffl⟩ := vb_of v off _ (areBytesN_drop hB at_) hge
        rw [List.length_drop] at hoff2
        have hpos : (at_ : Int) + (off : Int) = ((at_ + off : Nat) : Int) := by omega
        simp only [sh, if_true]
        rw [if_pos (by omega), if_pos (by omega), hpos]
        obtain ⟨ys, r2, r3, q1, q2, q4, q3⟩ := ih (b.length - (at_ + off)) (by omega) k (at_ + off) (acc ++ [(v : Int)]) (by omega) rfl (by omega) (by simp; omega)
        refine ⟨ys, r2, r3, q1, q2, by simp only [List.length_append, List.length_cons, List.length_nil] at q4; omega, fun h0 => ?_⟩
        obtain ⟨e1, zs, e2, e3, e4⟩ := q3 h0
        refine ⟨e1, (v : Int) :: zs, by rw [e2]; simp, ?_, ?_⟩
        · have hU : areU64 [(v : Int)] = true := by
            unfold areU64
            rw [List.all_cons, List.all_nil, Bool.and_true, decide_eq_true_eq]
            omega
          rw [← List.singleton_append]
          exact areU64_append hU e3
        · have : vbs ((v : Int) :: zs) = vb v ++ vbs zs := by simp [vbs]
          rw [List.drop_drop] at hsplit
          rw [this, e4]
          exact hsplit.symm
      · exact ⟨[], _, e, if_neg he, if_neg he, by simp, fun h => absurd h he⟩

theorem numbers_run (l : List Int) (hl : l.length ≤ 4611686018427387903) (d : Nat) : ∀ (k i : Nat), i ≤ l.length → l.length - i = d → d < k → emenderlaw01_numbers.l0 k l l (i : Int) = some true := by
  induction d with
  | zero =>
    intro k i h1 h2 h3
    obtain ⟨k, rfl⟩ : ∃ m, k = m + 1 := ⟨k - 1, by omega⟩
    rw [emenderlaw01_numbers.l0, if_neg (by omega)]
  | succ d ih =>
    intro k i h1 h2 h3
    obtain ⟨k, rfl⟩ : ∃ m, k = m + 1 := ⟨k - 1, by omega⟩
    have a1 : l.length - (i + 1) = d := by omega
    have a2 : d < k := by omega
    have a3 : i + 1 ≤ l.length := by omega
    rw [emenderlaw01_numbers.l0, if_pos (by omega), if_pos (by omega), if_pos (by omega), if_pos rfl, wrap_succ i (by omega)]
    exact ih k (i + 1) a3 a1 a2
theorem numbers_f (l : List Int) (k : Nat) (hl : l.length ≤ 4611686018427387903) (hk : l.length < k) : emenderlaw01_numbers.f k l l = some true := by
  unfold emenderlaw01_numbers.f
  rw [if_pos rfl]
  exact numbers_run l hl l.length k 0 (by omega) (by omega) hk

/-- Numbers that were written are read. -/
theorem all_back (l : List Int) (hU : areU64 l = true) (hl : l.length ≤ 1048576) (d : Nat) : ∀ (k i : Nat), i ≤ l.length → l.length - i = d → d < k → quad_All.l0 k (vbs l) (l.take i) ((vbs (l.take i)).length : Int) = some (l, ((vbs l).length : Int), 0) := by
  induction d with
  | zero =>
    intro k i h1 h2 h3
    obtain ⟨k, rfl⟩ : ∃ m, k = m + 1 := ⟨k - 1, by omega⟩
    obtain rfl : i = l.length := by omega
    rw [List.take_length, quad_All.l0, if_neg (by omega)]
  | succ d ih =>
    intro k i h1 h2 h3
    obtain ⟨k, rfl⟩ : ∃ m, k = m + 1 := ⟨k - 1, by omega⟩
    have hlt : i < l.length := by omega
    obtain ⟨u0, u1⟩ := areU64_mem hU (List.getElem_mem hlt)
    obtain ⟨v, hv⟩ : ∃ v : Nat, l[i] = (v : Int) := ⟨(l[i]).toNat, by omega⟩
    have hs : vbs (l.take (i + 1)) = vbs (l.take i) ++ vb v := by rw [List.take_succ_eq_append_getElem hlt, vbs_snoc, hv]; rfl
    have hrest : vbs l = vbs (l.take i) ++ (vb v ++ vbs (l.drop (i + 1))) := by
      have : vbs l = vbs (l.take (i + 1)) ++ vbs (l.drop (i + 1)) := by unfold vbs; rw [← List.flatMap_append, List.take_append_drop]
      rw [this, hs, List.append_assoc]
    have hp := vb_length_pos v
    have hlen := congrArg List.length hrest
    simp only [List.length_append] at hlen
    have hdrop : (vbs l).drop (vbs (l.take i)).length = vb v ++ vbs (l.drop (i + 1)) := by rw [hrest, List.drop_left]
    have hget := getL_vb v 0 0 (vbs (l.drop (i + 1))) (.inl rfl) (by rw [Nat.pow_zero, Nat.mul_one]; omega) (by decide)
    have hg : quad_Get.f (vbs l) ((vbs (l.take i)).length : Int) = some ((v : Int), (((vbs (l.take i)).length + (vb v).length : Nat) : Int), 0) := by
      rw [get_f _ _ (vbs_bytes l), getF_at _ _ (by omega), hdrop, hget, sh]
      simp
    rw [quad_All.l0, if_pos (by omega), hg]
    simp only [Option.bind_some, if_true]
    have htk : l.take i ++ [(v : Int)] = l.take (i + 1) := by rw [List.take_succ_eq_append_getElem hlt, hv]
    have htl : (l.take i).length ≤ 1048576 := by rw [List.length_take]; omega
    have hs2 : (vbs (l.take i)).length + (vb v).length = (vbs (l.take (i + 1))).length := by rw [hs, List.length_append]
    rw [if_pos (by omega), htk, hs2]
    exact ih k (i + 1) hlt (by omega) (by omega)

end Go.Proofs.Ytlpafdkpljohmaa.Pure
