/- The statement CodecTorn, stepped through. Condition: what it reads is of bulk at most 1048576. -/
import Derived.Test.YtmbnjgnmblgjoaaFrameMath
import Derived.Test.YtmbnjgnmblgjoaaChunkWhole
import Derived.Test.YtmbnjgnmblgjoaaWriter
import Derived.StillTailTactics
namespace Go.Proofs.Ytmbnjgnmblgjoaa.Man
open Go.RowKit Go.Proofs.YtmbnjgnmblgjoaaW.PrintWords Go.Proofs.YtmbnjgnmblgjoaaW.PrintLast Go.Proofs.YtmbnjgnmblgjoaaW.PrintMore
set_option linter.unusedVariables false
set_option linter.unusedSimpArgs false
set_option maxRecDepth 100000

theorem torn1 (b front back : List Int) (hB : areBytesN b = true) (hF : areBytesN front = true) (hK : areBytesN back = true) (hl : b.length ≤ 65536) :
    openF (front ++ frameF b ++ back) (front.length : Int) = (b, (front.length : Int) + ((frameF b).length : Int), 0) := by
  have h := openF_drop (front ++ frameF b ++ back) front.length 0 (by simp only [List.length_append]; omega) (areBytesN_append (areBytesN_append hF (frameF_bytes b hB)) hK) (by omega)
  rw [List.append_assoc, List.drop_left, openF_frame b back hB hl, Int.add_zero] at h
  rw [List.append_assoc]
  generalize openF (front ++ (frameF b ++ back)) (front.length : Int) = r at h ⊢
  obtain ⟨r1, r2, r3⟩ := r
  simp only [Prod.mk.injEq] at h ⊢
  refine ⟨h.1.symm, by omega, h.2.2.symm⟩
theorem openF_bad (d : List Int) (h : (openF d 0).2.2 ≠ 0) : (openF d 0).2.1 = 0 := by
  unfold openF at h ⊢
  split <;> try rfl
  rename_i h0; rw [if_neg h0] at h
  split <;> try rfl
  rename_i h1; rw [if_neg h1] at h
  split <;> try rfl
  rename_i h2; rw [if_neg h2] at h
  split <;> try rfl
  rename_i h3; rw [if_neg h3] at h
  exact absurd rfl h
theorem set_bytes (l : List Int) (k : Nat) (c : Int) (hl : areBytesN l = true) (h0 : 0 ≤ c) (h1 : c ≤ 255) : areBytesN (l.set k c) = true := by
  unfold areBytesN at *
  rw [List.all_eq_true] at *
  intro x hx
  rcases List.mem_or_eq_of_mem_set hx with h | h
  · exact hl x h
  · subst h
    simp
    omega
theorem torn3 (b : List Int) (k : Nat) (c : Int) (hB : areBytesN b = true) (hk : k < (frameF b).length) (h0 : 0 ≤ c) (h1 : c ≤ 255) (he : (openF ((frameF b).set k c) 0).2.2 = 0) (hy : (openF ((frameF b).set k c) 0).1 = b) : c = (frameF b).getD k 0 := by
  obtain ⟨⟨y, nx, er⟩, hr⟩ : ∃ r, openF ((frameF b).set k c) 0 = r := ⟨_, rfl⟩
  rw [hr] at he hy
  simp only at he hy
  subst he
  subst hy
  obtain ⟨_, _, _, rest, hd⟩ := openF_inv _ _ _ (set_bytes _ k c (frameF_bytes y hB) h0 h1) hr
  have hlen := congrArg List.length hd
  rw [List.length_set, List.length_append] at hlen
  have : rest = [] := List.eq_nil_of_length_eq_zero (by omega)
  rw [this, List.append_nil] at hd
  have := congrArg (fun l => l.getD k 0) hd
  simp only [List.getD_eq_getElem?_getD, List.getElem?_set_self hk, Option.getD_some] at this ⊢
  exact this
theorem getD_eq (l : List Int) (k : Nat) (hk : k < l.length) : rd l (k : Int) = l.getD k 0 := rfl

set_option maxHeartbeats 16000000 in
theorem torn_walk (A1 : Option Addr) (c1 : Nat) (b : List Int) (A2 : Option Addr) (c2 : Nat) (front : List Int) (A3 : Option Addr) (c3 : Nat) (back : List Int) (cut c : Int) (w : World)
    (hr1 : Kd.C (Kd.int .u8) w A1 b.length b) (hb1 : areBytesN b = true) (hr2 : Kd.C (Kd.int .u8) w A2 front.length front) (hb2 : areBytesN front = true) (hr3 : Kd.C (Kd.int .u8) w A3 back.length back) (hb3 : areBytesN back = true)
    (hu : b.length + front.length + back.length ≤ 1048576) (hcut : 0 ≤ cut ∧ cut < 65536) (hc : 0 ≤ c ∧ c ≤ 255) :
    Calls Try.prog 6 #[.slice A1 b.length c1, .slice A2 front.length c2, .slice A3 back.length c3, .int .u16 cut, .int .u8 c] w fun e w' => e = .returned (.bool true) ∧ Below w.heap.size w w' := by
  have H1 := Lib.hid hr1
  have H2 := Lib.hid hr2
  have H3 := Lib.hid hr3
  have HB1 := Lib.hid hb1
  have HB2 := Lib.hid hb2
  have HB3 := Lib.hid hb3
  clear hr1 hr2 hr3 hb1 hb2 hb3
  have hW : wrapF b = if 65536 < b.length then ([], 2) else (frameF b, 0) := rfl
  by_cases hbig : 65536 < b.length
  · rw [if_pos hbig] at hW
    have HWR := Lib.hid hW
    clear hW
    go_enter Try.func6, Try.ntmps6
    go_wp2_with (first
      | (go_at_call 21; refine (wrap_any A1 c1 b w H1.out HB1.out).mono ?_; rintro e w1 ⟨v1, rfl, hr, hb⟩; rw [HWR.out] at hr; rw [HWR.out]; obtain ⟨Af, kf, rfl, _, _⟩ := BR.len hr; have HW1 := Lib.hid hb; clear hr hb)
      | (go_at_call 47; refine (awake16_is _).mono ?_; rintro e w2 ⟨rfl, hb⟩; have HW2 := Lib.hid (HW1.out.trans (hb.mono HW1.out.size)); clear hb))
    go_ret
    exact ⟨rfl, HW2.out⟩
  rw [if_neg hbig] at hW
  have HWR := Lib.hid hW
  have hfl := frameF_length b
  have hv10 : (vb b.length).length ≤ 10 := vb_le_ten (by omega)
  have T1 := Lib.hid (torn1 b front back HB1.out HB2.out HB3.out (by omega))
  obtain ⟨k, hkl, hkq⟩ : ∃ k : Nat, k < (frameF b).length ∧ cut % ((frameF b).length : Int) = (k : Int) :=
    ⟨(cut % ((frameF b).length : Int)).toNat, by have := Int.emod_lt_of_pos cut (show (0 : Int) < ((frameF b).length : Int) by omega); have := Int.emod_nonneg cut (show ((frameF b).length : Int) ≠ 0 by omega); omega, by have := Int.emod_nonneg cut (show ((frameF b).length : Int) ≠ 0 by omega); omega⟩
  have T2 := Lib.hid (openF_short b (by omega) k hkl)
  have T3 := Lib.hid (torn3 b k c HB1.out hkl hc.1 hc.2)
  have T4 := Lib.hid (openF_bad ((frameF b).set k c))
  have HFB := Lib.hid (frameF_bytes b HB1.out)
  have hfl2 : 0 < (frameF b).length ∧ (frameF b).length ≤ 65550 := by omega
  obtain ⟨hc0, hc1⟩ := hc
  obtain ⟨hfl0, hfl3⟩ := hfl2
  obtain ⟨f, hf⟩ : ∃ f, frameF b = f := ⟨_, rfl⟩
  rw [hf] at T1 T2 T3 T4 HFB HWR hkl hkq hfl0 hfl3
  clear hW hv10 hfl hf
  go_enter Try.func6, Try.ntmps6
  go_upto_region 6 with (first
    | (go_at_call 21; refine (wrap_any A1 c1 b w H1.out HB1.out).mono ?_; rintro e w1 ⟨v1, rfl, hr, hb⟩; rw [HWR.out] at hr; rw [HWR.out]; obtain ⟨Af, kf, rfl, hkf, hCf⟩ := BR.len hr; have HCF := Lib.hid hCf; have HW1 := Lib.hid hb; have HE := Lib.hid (BR.empty w1 w1.heap.size (Nat.le_refl _)); have HBE := Lib.hid ((Below.refl w1.heap.size w1).alloc (Nat.le_refl _) (.cells #[] 5)); clear hr hb hCf)
    | (at_builtin; refine BR.append_ev (w := w1.alloc (.cells #[] 5)) (base := w1.heap.size) HE.out (Kd.C_below (Kd.C_below H2.out HW1.out) HBE.out) rfl (.tmp 42) (.tmp 43) rfl rfl rfl HBE.out.size (by simp only [List.length_nil]; omega) ?_; intro v2 w2 hr2 hb2 hat; rw [List.nil_append] at hr2; obtain ⟨Ad, kd, rfl, _, _⟩ := BR.len hr2; have HR2 := Lib.hid hr2; have HX2 := Lib.hid (HBE.out.trans hb2); clear hr2 hb2 hat)
    | (at_builtin; refine BR.append_ev (w := w2) (base := w1.heap.size) HR2.out (Kd.C_below HCF.out HX2.out) rfl (.tmp 44) (.tmp 45) rfl rfl rfl HX2.out.size (by omega) ?_; intro v3 w3 hr3 hb3 hat; obtain ⟨ys, hys⟩ : ∃ ys, front ++ f = ys := ⟨_, rfl⟩; rw [hys] at hr3; have hysl : ys.length ≤ 1200000 := (by rw [← hys, List.length_append]; omega); have HYS := Lib.hid hys; obtain ⟨Ag, kg, rfl, _, _⟩ := BR.len hr3; have HR3 := Lib.hid hr3; have HX3 := Lib.hid (HX2.out.trans hb3); clear hr3 hb3 hat hys)
    | (at_builtin; refine BR.append_ev (w := w3) (base := w1.heap.size) HR3.out (Kd.C_below (Kd.C_below H3.out HW1.out) HX3.out) rfl (.tmp 46) (.tmp 47) rfl rfl rfl HX3.out.size (by omega) ?_; intro v4 w4 hr4 hb4 hat; have hys := HYS.out; obtain ⟨al, hal⟩ : ∃ al, ys ++ back = al := ⟨_, rfl⟩; have t1 := T1.out; rw [hys, hal] at t1; rw [hal] at hr4; have hall : al.length ≤ 2400000 := (by rw [← hal, List.length_append]; omega); have HTB := Lib.hid (areBytesN_append (areBytesN_append HB2.out HFB.out) HB3.out); rw [hys, hal] at HTB; have HT := Lib.hid t1; obtain ⟨Ah, kh, rfl, hkh, hCh⟩ := BR.len hr4; have HCH := Lib.hid hCh; have HX4 := Lib.hid (HX3.out.trans hb4); clear hr4 hb4 hat t1 hCh hal hys)
    | (go_at_call 22; refine (open_any Ah kh al (front.length : Int) w4 HCH.out hkh HTB.out (by omega)).mono ?_; rintro e w5 ⟨v5, rfl, hr, hb⟩; rw [HT.out] at hr; rw [HT.out]; obtain ⟨Ai, ki, rfl, _, hCi⟩ := BR.len hr; have HCI := Lib.hid hCi; have HX5 := Lib.hid (HX4.out.trans (hb.mono HX4.out.size)); have HW5 := Lib.hid (HW1.out.trans (HX5.out.mono HW1.out.size)); clear hr hb hCi))
  have t1 : (convert 27 9 (.slice Ai b.length ki)).run Try.prog w5 = .ok (.string (strOfNums b)) w5 := str_of HCI.out
  have t2 : (convert 27 9 (.slice A1 b.length c1)).run Try.prog w5 = .ok (.string (strOfNums b)) w5 := str_of (Kd.C_below H1.out HW5.out)
  go_upto_region 11 with (fail)
  rw [hkq]
  clear t1 t2 hkq
  obtain ⟨i0, hi0, hsz0⟩ : ∃ i0, Try.prog.info? 5 = some i0 ∧ i0.size = 1 := by obtain ⟨i0, h, _, h2, _⟩ := info_parts info_u8; exact ⟨i0, h, h2⟩
  obtain ⟨hcut, hAc, hkc⟩ := print_take_of (P := Try.prog) (Value.int .u8) 0 27 5 .i64 Try.underlying27 hi0 hsz0 Af kf f (k : Int) (by omega) (by omega) hkf
  rw [Int.toNat_natCast] at hcut hAc hkc
  have HCC : Hid (∀ W, Kd.C (Kd.int .u8) W Af f.length f → Kd.C (Kd.int .u8) W Af (f.take k).length (f.take k)) := Lib.hid fun W h => Kd.C_of_reads (h1 := fun _ => rfl) (hAc W (Kd.reads_of_C h))
  have hftB := areBytesN_take HFB.out k
  have hftl : (f.take k).length ≤ 65550 := by rw [List.length_take]; omega
  obtain ⟨ft, hft⟩ : ∃ ft, f.take k = ft := ⟨_, rfl⟩
  rw [hft] at T2 HCC hcut hkc hftB hftl
  have HFTB := Lib.hid hftB
  have hsl : (f.set k c).length = f.length := List.length_set
  obtain ⟨fs, hfs⟩ : ∃ fs, f.set k c = fs := ⟨_, rfl⟩
  have HSB := Lib.hid (set_bytes f k c HFB.out hc0 hc1)
  have HFS := Lib.hid hfs
  rw [hfs] at T3 T4 HSB hsl
  have HSL := Lib.hid hsl
  clear hAc hi0 hsz0 hftB hft hfs hsl
  go_upto_region 15 with (first
    | (go_at_call 22; refine (open_any Af kf ft 0 w5 (HCC.out _ (Kd.C_below HCF.out HX5.out)) hkc HFTB.out (by omega)).mono ?_; rintro e w6 ⟨v6, rfl, hr, hb⟩; rw [T2.out] at hr; rw [T2.out]; obtain ⟨Aj, kj, rfl, _, _⟩ := BR.len hr; have HX6 := Lib.hid (HX5.out.trans (hb.mono HX5.out.size)); have HE6 := Lib.hid (BR.empty w6 w6.heap.size (Nat.le_refl _)); have HBE6 := Lib.hid ((Below.refl w6.heap.size w6).alloc (Nat.le_refl _) (.cells #[] 5)); clear hr hb)
    | (at_builtin; refine BR.append_ev (w := w6.alloc (.cells #[] 5)) (base := w6.heap.size) HE6.out (Kd.C_below (Kd.C_below HCF.out HX6.out) HBE6.out) rfl (.tmp 97) (.tmp 98) rfl rfl rfl HBE6.out.size (by simp only [List.length_nil]; omega) ?_; intro v7 w7 hr7 hb7 hat; rw [List.nil_append] at hr7; obtain ⟨g, kd7, rfl, hg7, _⟩ := Kd.R_form hr7 hfl0; have HR7 := Lib.hid hr7; have HB7 := Lib.hid (HBE6.out.trans hb7); clear hr7 hb7 hat))
  obtain ⟨z1, z2⟩ := Kd.R_cell (0 : Int) HR7.out (k : Int) (by omega) (by omega)
  rw [Int.toNat_natCast] at z1 z2
  have hp := Kd.R_put HR7.out (k : Int) c
  rw [Int.toNat_natCast, HFS.out] at hp
  have HP := Lib.hid hp.1
  have HB8 := Lib.hid (HB7.out.grown hp.2 HB7.out.size (fun q e => by cases e; exact hg7))
  clear hp
  have hop := open_any (some ⟨g, 0, none⟩) kd7 fs 0 (w7.setCell ⟨g, k, none⟩ (.int .u8 c)) (by have := HP.out; rw [← HSL.out] at this; exact BR.C this) (by have := HP.out; rw [← HSL.out] at this; obtain ⟨A', c', e, h1, _⟩ := BR.len this; cases e; exact h1) HSB.out (by rw [HSL.out]; omega)
  rw [HSL.out] at hop
  obtain ⟨⟨y, m, er⟩, hy⟩ : ∃ r, openF fs 0 = r := ⟨_, rfl⟩
  rw [hy] at hop T3 T4
  simp only at hop T3 T4
  have HYB : Hid (er = 0 → areBytesN y = true) := Lib.hid fun h => (openF_inv fs y m HSB.out (by rw [hy, h])).2.1
  have HOP := Lib.hid hop
  clear hop hy
  go_upto_region 17 with (go_at_call 22; refine HOP.out.mono ?_; rintro e w9 ⟨v9, rfl, hr, hb⟩; obtain ⟨Ay, ky, rfl, _, hCy⟩ := BR.len hr; have HCY := Lib.hid hCy; have HX9 := Lib.hid (HX6.out.trans ((HB8.out.trans (hb.mono HB8.out.size)).mono HX6.out.size)); have HW9 := Lib.hid (HW1.out.trans (HX9.out.mono HW1.out.size)); clear hr hb hCy)
  obtain ⟨ad, ea, hck⟩ := Kd.at_int (Kd.C_below HCF.out HX9.out) (k : Int) (by omega) (by omega)
  subst ea
  have hrd : rd f (k : Int) = f.getD k 0 := rfl
  rw [hrd, Int.toNat_natCast] at hck
  clear hrd
  obtain ⟨x, hx⟩ : ∃ x, f.getD k 0 = x := ⟨_, rfl⟩
  rw [hx] at hck T3
  have t3 : (convert 27 9 (.slice Ay y.length ky)).run Try.prog w9 = .ok (.string (strOfNums y)) w9 := str_of HCY.out
  have t4 : (convert 27 9 (.slice A1 b.length c1)).run Try.prog w9 = .ok (.string (strOfNums b)) w9 := str_of (Kd.C_below H1.out HW9.out)
  clear z1 z2 hcut
  have hcase : c = x ∨ (c ≠ x ∧ er ≠ 0 ∧ m = 0) ∨ (c ≠ x ∧ er = 0 ∧ (strOfNums y).toList ≠ (strOfNums b).toList) := by
    by_cases h1 : c = x
    · exact .inl h1
    by_cases h2 : er = 0
    · refine .inr (.inr ⟨h1, h2, fun e => h1 (T3.out h2 (strs_inj (HYB.out h2) HB1.out e))⟩)
    · exact .inr (.inl ⟨h1, h2, T4.out h2⟩)
  rcases hcase with rfl | ⟨q1, q2, rfl⟩ | ⟨q1, rfl, q3⟩
  · go_wp2_with (go_at_call 47; refine (awake16_is _).mono ?_; rintro e w10 ⟨rfl, hb⟩; have HW10 := Lib.hid (HW9.out.trans (hb.mono HW9.out.size)); clear hb)
    go_ret
    exact ⟨rfl, HW10.out⟩
  · have b1 : (c == x) = false := by simpa using q1
    have b2 : (er != 0) = true := by simpa using q2
    go_wp2_with (go_at_call 47; refine (awake16_is _).mono ?_; rintro e w10 ⟨rfl, hb⟩; have HW10 := Lib.hid (HW9.out.trans (hb.mono HW9.out.size)); clear hb)
    go_ret
    exact ⟨rfl, HW10.out⟩
  · have b1 : (c == x) = false := by simpa using q1
    have b3 : ((strOfNums y).toList == (strOfNums b).toList) = false := by simpa using q3
    go_wp2_with (go_at_call 47; refine (awake16_is _).mono ?_; rintro e w10 ⟨rfl, hb⟩; have HW10 := Lib.hid (HW9.out.trans (hb.mono HW9.out.size)); clear hb)
    go_ret
    exact ⟨rfl, HW10.out⟩

/-- The form that the row calls. -/
theorem torn_row (A1 : Option Addr) (c1 : Nat) (b : List Int) (A2 : Option Addr) (c2 : Nat) (front : List Int) (A3 : Option Addr) (c3 : Nat) (back : List Int) (cut c : Int) (w : World)
    (hr1 : (Kd.int .u8).C w A1 b.length b) (hc1 : b.length ≤ c1) (w1 : b.length * 1 ≤ 140737488351232 ∧ ∀ x ∈ b, (Lit.int .u8 x).wf = true)
    (hr2 : (Kd.int .u8).C w A2 front.length front) (hc2 : front.length ≤ c2) (w2 : front.length * 1 ≤ 140737488351232 ∧ ∀ x ∈ front, (Lit.int .u8 x).wf = true)
    (hr3 : (Kd.int .u8).C w A3 back.length back) (hc3 : back.length ≤ c3) (w3 : back.length * 1 ≤ 140737488351232 ∧ ∀ x ∈ back, (Lit.int .u8 x).wf = true)
    (w4 : (Lit.int .u16 cut).wf = true) (w5 : (Lit.int .u8 c).wf = true) (hU : b.length + front.length + back.length ≤ 1048576) :
    Calls Try.prog 6 #[.slice A1 b.length c1, .slice A2 front.length c2, .slice A3 back.length c3, .int .u16 cut, .int .u8 c] w fun e w' => e = .returned (.bool true) ∧ Below w.heap.size w w' := by
  have hb : ∀ l : List Int, (∀ x ∈ l, (Lit.int .u8 x).wf = true) → areBytesN l = true := fun l h => by
    unfold areBytesN
    rw [List.all_eq_true]
    intro x hx
    have := h x hx
    simp [Lit.wf, IntKind.min, IntKind.max, IntKind.bits, IntKind.signed] at this
    simpa using this
  have h4 : 0 ≤ cut ∧ cut < 65536 := by simp [Lit.wf, IntKind.min, IntKind.max, IntKind.bits, IntKind.signed] at w4; omega
  have h5 : 0 ≤ c ∧ c ≤ 255 := by simp [Lit.wf, IntKind.min, IntKind.max, IntKind.bits, IntKind.signed] at w5; omega
  exact torn_walk A1 c1 b A2 c2 front A3 c3 back cut c w hr1 (hb b w1.2) hr2 (hb front w2.2) hr3 (hb back w3.2) hU h4 h5
end Go.Proofs.Ytmbnjgnmblgjoaa.Man
