/- The statement ChunkWhole, stepped through: frames that come in any pieces are told as they were written. -/
import Derived.Test.YtmbnjgnmblgjoaaChunkOne
import Derived.Test.YtmbnjgnmblgjoaaFrameMath
namespace Go.Proofs.Ytmbnjgnmblgjoaa.Man
open Go.RowKit Go.Proofs.YtmbnjgnmblgjoaaW.PrintWords Go.Proofs.YtmbnjgnmblgjoaaW.PrintLast Go.Proofs.YtmbnjgnmblgjoaaW.PrintMore
set_option linter.unusedVariables false
set_option linter.unusedSimpArgs false
set_option maxRecDepth 100000

/-- Younger rows behind elder ones. -/
theorem OUT.rows2_ev {ops : Array Oper} {rest : List Oper} {o : Oper} {a : Act} {Q : Exit → Act → World → Prop} {w : World} {base n0 : Nat} {v : Value} {os ps : List (List Int)} {A : Option Addr} {c : Nat}
    (h : OUT w base v os) (hv : ∀ k, v.ownBlock = some k → k < n0) (hn : base ≤ n0) (hs0 : OUT w n0 (.slice A ps.length c) ps)
    (hgd : o.guard = none) (s x : Operand) (ho : o.op = .call { callee := .builtin .append, args := #[s, x], argTypes := #[41, 41] })
    (hs : a.eval s = v) (hx : a.eval x = .slice A ps.length c) (hbase : base ≤ w.heap.size) (hl : os.length + ps.length ≤ 4194304)
    (k : ∀ v1 w1, OUT w1 base v1 (os ++ ps) → Below base w w1 → w.grownBy w1 v.ownBlock → wpList Try.prog ops Q rest (a.put o.dst v1) w1) : wpList Try.prog ops Q (o :: rest) a w := by
  have hs1 : Kd.R (Kd.slice 5 (Kd.int .u8)) 27 w base (fun k => n0 ≤ k) (.slice A ps.length c) ps := Kd.R_lower (Kd.R_mono (Kd.R_bound hs0) (fun k hk => hk.2.1)) hn
  obtain ⟨A', c', e, _, hr⟩ := OwnRow.reads hs1.2
  cases e
  refine Kd.R_append_rows (Kd.slice 5 (Kd.int .u8)) (w0 := w) base hgd s x 41 27 (.slice none 0 0) 24 ho Try.underlying41 info_row rfl (by decide) (by omega) v os ps A ps.length c (fun _ => True) (fun k => n0 ≤ k ∧ some k ≠ Value.ownBlock (.slice A ps.length c)) hs hx h hr (fun _ _ h => h) (fun j hj => ⟨trivial, fun e => by have := hv j e.symm; omega⟩) (fun _ _ => trivial) (Below.refl _ _) hbase (by omega) ?_
  intro v1 w1 h1 h2 h3 h4
  exact k v1 w1 h1 h2 h3
theorem OUT.lt {w : World} {base : Nat} {v : Value} {os : List (List Int)} (h : OUT w base v os) : ∀ k, v.ownBlock = some k → k < w.heap.size := fun k hk => own_lt (Kd.R_own h).choose_spec k hk
theorem BR.C {w : World} {base : Nat} {A : Option Addr} {c : Nat} {xs : List Int} (h : BR w base (.slice A xs.length c) xs) : Kd.C (Kd.int .u8) w A xs.length xs := by
  obtain ⟨A', c', e, _, hr⟩ := Kd.R_reads h
  cases e
  exact hr
theorem OUT.C {w : World} {base : Nat} {A : Option Addr} {c : Nat} {xs : List (List Int)} (h : OUT w base (.slice A xs.length c) xs) : Kd.C (Kd.slice 5 (Kd.int .u8)) w A xs.length xs := by
  obtain ⟨A', c', e, _, hr⟩ := Kd.R_reads h
  cases e
  exact hr
/-- Rows of bytes, and rows of rows that are written. -/
theorem BR.past {w w1 : World} {base base' : Nat} {v u : Value} {xs : List Int} {os : List (List Int)} (h : BR w base v xs) (o : OUT w base' u os) (hg : w.grownBy w1 u.ownBlock) : BR w1 base v xs := by
  refine Kd.R_mono (Kd.R_grown (Kd.R_bound h) hg (fun k hk e => ?_)) (fun _ _ => trivial)
  obtain ⟨_, _, _, q, hq, cells, hc⟩ := hk
  have hq5 : q = 5 := by simpa [Kd.int, Kd.scalar] using hq
  subst hq5
  exact Kd.R_ne o hc (by decide) e
theorem ChunkS.past {w w1 : World} {B base' : Nat} {h n : Int} {v u : Value} {xs : List Int} {os : List (List Int)} (k : ChunkS w B h v xs n) (o : OUT w base' u os) (hg : w.grownBy w1 u.ownBlock) : ChunkS w1 B h v xs n :=
  k.grown hg (fun e => Kd.R_ne o k.at_ (by decide) e.symm) fun j hj e => by
    obtain ⟨cur, hc⟩ := k.typ j hj
    exact Kd.R_ne o hc (by decide) e.symm
theorem BR.chunk {w w1 : World} {base B : Nat} {v u : Value} {xs : List Int} {h n : Int} (r : BR w base v xs) (k : ChunkAt w B h u n) (hg : w.grownBy w1 (some B)) : BR w1 base v xs :=
  Kd.R_mono (Kd.R_grown (Kd.R_types r k (by decide)) hg (fun k hk => by simpa using hk.2)) (fun _ _ => trivial)

theorem frames_take (fs : List (List Int)) (i : Nat) (h : i < fs.length) : rowOfFrames (fs.take (i + 1)) = rowOfFrames (fs.take i) ++ frameF (fs.getD i []) := by
  unfold rowOfFrames
  rw [List.take_succ_eq_append_getElem h, List.flatMap_append]
  simp [List.getD, h]

theorem C_take_rows {w : World} {A : Option Addr} {ps : List (List Int)} (h : Kd.C (Kd.slice 5 (Kd.int .u8)) w A ps.length ps) (i : Nat) (hi : i ≤ ps.length) : Kd.C (Kd.slice 5 (Kd.int .u8)) w A (ps.take i).length (ps.take i) := by
  have hl : (ps.take i).length = i := by rw [List.length_take]; omega
  refine ⟨rfl, by have := h.2.1; omega, fun h0 => ?_⟩
  obtain ⟨ad, e, hc⟩ := h.2.2 (by omega)
  refine ⟨ad, e, fun j p hj => hc j p ?_⟩
  have hji : j < i := by rw [← hl]; exact (List.getElem?_eq_some_iff.1 hj).1
  rwa [List.getElem?_take, if_pos hji] at hj
theorem cut_rows (A : Option Addr) (n c i : Nat) (hi : i ≤ n) (hc : n ≤ c) (W : World) : (Instr.slice 41 (.slice A n c) none (some (.int .i64 (i : Int))) none).run Try.prog W = .ok (.slice A i c) W := by
  obtain ⟨i0, hi0, hz, hs, hb⟩ := info_parts info_row
  have hel : Try.prog.elem 41 = 27 := by simp [Program.elem, Try.underlying41]
  have hu : Try.prog.underlying 41 = some (.slice (Try.prog.elem 41)) := by rw [hel]; exact Try.underlying41
  have ha : (A.map fun x => x.add 0) = A := by cases A <;> simp [Addr.add]
  rw [run_slice_h W 41 A n c hu .i64 (i : Int) (by omega) (by omega), hel]
  simp [sizeOf, typeInfo, hi0, hs, sliced, Result.andThen, ha]
theorem take_mid_ (l : List Int) (a k : Nat) : l.take a ++ (l.take (a + k)).drop a = l.take (a + k) := by
  have := List.take_append_drop a (l.take (a + k))
  rwa [List.take_take, Nat.min_eq_left (by omega)] at this
/-- What a piece more tells. -/
theorem piece (p c : List Int) (hp : areBytesN p = true) (hc : areBytesN c = true) (h1 : (eatAll p).2.2 = 3) (h2 : (eatAll (p ++ c)).2.2 = 3) :
    (eatAll p).1 ++ (eatAll (feedW p ++ c)).1 = (eatAll (p ++ c)).1 ∧ feedE (feedW p ++ c) = 0 ∧ feedH (feedW p ++ c) = 1 ∧ feedW (feedW p ++ c) = feedW (p ++ c) ∧
      ((eatAll p).1.length : Int) + ((eatAll (feedW p ++ c)).1.length : Int) = ((eatAll (p ++ c)).1.length : Int) := by
  obtain ⟨k1, k2, k3, k4⟩ := one_on p c hp hc h1
  refine ⟨k1.symm, ?_, ?_, k4.symm, ?_⟩
  · rw [← k2]; unfold feedE; exact if_pos h2
  · rw [← k3]; unfold feedH; exact if_pos h2
  · rw [k1, List.length_append]; omega

theorem same_yes_ (w : World) (A A' : Option Addr) (c c' : Nat) (os : List (List Int)) (n : Nat) (hn : n = os.length) (hr : Kd.C (Kd.slice 5 (Kd.int .u8)) w A os.length os) (hr' : Kd.C (Kd.slice 5 (Kd.int .u8)) w A' os.length os) :
    Calls Try.prog 43 #[.slice A os.length c, .slice A' n c'] w fun e w' => e = .returned (.bool true) ∧ Below w.heap.size w w' := by
  subst hn
  exact same_yes w A A' c c' os hr hr'
set_option maxHeartbeats 16000000 in
theorem whole_walk (A1 : Option Addr) (c1 : Nat) (fs : List (List Int)) (A2 : Option Addr) (c2 : Nat) (ct : List Int) (w : World) (hr1 : Kd.C (Kd.slice 5 (Kd.int .u8)) w A1 fs.length fs) (hc1 : fs.length ≤ c1) (hb1 : ∀ f ∈ fs, areBytesN f = true) (hr2 : Kd.C (Kd.int .u8) w A2 ct.length ct) (hb2 : areBytesN ct = true) :
    Calls Try.prog 7 #[.slice A1 fs.length c1, .slice A2 ct.length c2] w fun e w' => e = .returned (.bool true) ∧ Below w.heap.size w w' := by
  have hl1 : fs.length ≤ 9223372036854775807 := hr1.2.1
  have hl2 : ct.length ≤ 9223372036854775807 := hr2.2.1
  have hbg : ∀ i, areBytesN (fs.getD i []) = true := fun i => by
    rw [List.getD_eq_getElem?_getD]
    cases hx : fs[i]? with
    | none => rfl
    | some x => exact hb1 x (List.mem_of_getElem? hx)
  have H1 := Lib.hid hr1
  have H2 := Lib.hid hr2
  have HB1 := Lib.hid hb1
  have HBG := Lib.hid hbg
  have HB2 := Lib.hid hb2
  have HC1 := Lib.hid hc1
  clear hr1 hr2 hb1 hb2 hc1 hbg
  go_enter Try.func7, Try.ntmps7
  go_wp2_with (fail)
  go_loopg [5, 6] 21 (fun g s5 s6 wr => ∃ i : Nat, s6 = .int .i64 i ∧ i ≤ fs.length ∧ i ≤ 20 ∧ g = 21 - i ∧ (rowOfFrames (fs.take i)).length ≤ 100000 ∧ Hid (BR wr w.heap.size s5 (rowOfFrames (fs.take i))) ∧ Hid (∀ f ∈ fs.take i, f.length ≤ 65536) ∧ Hid (Below w.heap.size w wr))
  case atStart => exact ⟨0, rfl, by omega, by omega, rfl, by simp [rowOfFrames], Lib.hid (Kd.R_nil _ _ _ _ _), Lib.hid (by simp), Lib.hid (Below.refl _ _)⟩
  case round =>
    obtain ⟨i, rfl, hi1, hi2, hg, hall, HA, HF, HW⟩ := hrel
    obtain ⟨pre, hpre⟩ : ∃ pre, rowOfFrames (fs.take i) = pre := ⟨_, rfl⟩
    rw [hpre] at HA hall
    have HPRE := Lib.hid hpre
    clear hpre
    obtain ⟨Aa, ka, rfl, hka, hCa⟩ := BR.len HA.out
    have HCA := Lib.hid hCa
    clear hCa
    by_cases hlt : i < fs.length ∧ i < 20
    · obtain ⟨q1, q2⟩ := hlt
      have htk := frames_take fs i q1
      obtain ⟨ad, Ap, cp, e1, hcw, hcp, hrp⟩ := at_rows H1.out i q1
      subst e1
      have hfb := HBG.out i
      have hmem : ∀ f ∈ fs.take (i + 1), f ∈ fs.take i ∨ f = fs.getD i [] := fun f hf => by
        rw [List.take_succ_eq_append_getElem q1, List.mem_append] at hf
        rcases hf with hf | hf
        · exact .inl hf
        · exact .inr (by simpa [List.getD, q1] using hf)
      generalize fs.getD i [] = f at htk hcw hcp hrp hfb hmem
      rw [HPRE.out] at htk
      have hfl := frameF_length f
      have hvl : (vb f.length).length ≤ 10 ∨ 65536 < f.length := by
        by_cases h : 65536 < f.length
        · exact .inr h
        · exact .inl (vb_le_ten (by omega))
      have HTK := Lib.hid htk
      have HCW := Lib.hid hcw
      have HRP := Lib.hid hrp
      have HFB := Lib.hid hfb
      have HMM := Lib.hid hmem
      have hcr := pw_cell_below HW.out hcw
      clear htk hcw hrp hfb hmem
      by_cases hbig : 65536 < f.length
      · have hw2 : wrapF f = ([], 2) := by unfold wrapF; rw [if_pos hbig]
        have HWF := Lib.hid hw2
        clear hw2
        go_wp2_with (first
          | (go_at_call 21; refine (wrap_any Ap cp f _ (Kd.C_below HRP.out HW.out) HFB.out).mono ?_; rintro e w1 ⟨v, rfl, hr, hb⟩; rw [HWF.out] at hr ⊢; obtain ⟨A9, k9, rfl, _, _⟩ := BR.len hr; have hcr1 := pw_cell_below hb hcr; have HW1 := Lib.hid (HW.out.trans (hb.mono HW.out.size)); clear hr hb)
          | (go_at_call 44; refine (awake32_is _).mono ?_; rintro e w9 ⟨rfl, hb⟩; have HW9 := Lib.hid (HW1.out.trans (hb.mono HW1.out.size)); clear hb))
        go_ret
        exact ⟨rfl, HW9.out⟩
      · have hbigB : decide (65536 < (f.length : Int)) = false := by simp; omega
        have hw2 : wrapF f = (frameF f, 0) := by unfold wrapF; rw [if_neg hbig]
        have HWF := Lib.hid hw2
        obtain ⟨ff, hff⟩ : ∃ ff, frameF f = ff := ⟨_, rfl⟩
        rw [hff] at hfl
        have hfl2 : ff.length ≤ 65550 := by omega
        have HFF := Lib.hid hff
        have HFL := Lib.hid hfl
        clear hw2 hff hfl
        by_cases hover : 100000 < pre.length + ff.length
        · go_wp2_with (first
            | (go_at_call 21; refine (wrap_any Ap cp f _ (Kd.C_below HRP.out HW.out) HFB.out).mono ?_; rintro e w1 ⟨v, rfl, hr, hb⟩; rw [HWF.out] at hr ⊢; rw [HFF.out] at hr; obtain ⟨A9, k9, rfl, _, _⟩ := BR.len hr; have hcr1 := pw_cell_below hb hcr; have HW1 := Lib.hid (HW.out.trans (hb.mono HW.out.size)); clear hr hb)
            | (go_at_call 44; refine (awake32_is _).mono ?_; rintro e w9 ⟨rfl, hb⟩; have HW9 := Lib.hid (HW1.out.trans (hb.mono HW1.out.size)); clear hb))
          go_ret
          exact ⟨rfl, HW9.out⟩
        · go_wp2_with (first
            | (go_at_call 21; refine (wrap_any Ap cp f _ (Kd.C_below HRP.out HW.out) HFB.out).mono ?_; rintro e w1 ⟨v, rfl, hr, hb⟩; rw [HWF.out] at hr ⊢; rw [HFF.out] at hr; obtain ⟨A9, k9, rfl, _, hC9⟩ := BR.len hr; have HC9 := Lib.hid hC9; have HA1 := Lib.hid (Kd.R_below HA.out hb); have HW1 := Lib.hid (HW.out.trans (hb.mono HW.out.size)); clear hr hb hC9)
            | (at_builtin; refine BR.append_ev (w := w1) HA1.out (ys := ff) (c := k9) HC9.out rfl (.tmp 59) (.tmp 60) rfl rfl rfl HW1.out.size (by omega) ?_; intro v2 w2 hr hb hat; have HA2 := Lib.hid hr; have HW2 := Lib.hid (HW1.out.trans hb); clear hr hb hat))
          go_roundg (21 - (i + 1))
          case measure => omega
          case rel =>
            have e := HTK.out
            rw [HFF.out] at e
            refine ⟨i + 1, by go_num, by omega, by omega, rfl, by rw [e, List.length_append]; omega, Lib.hid (by rw [e]; exact HA2.out), Lib.hid fun g hg => ?_, HW2⟩
            rcases HMM.out g hg with h | rfl
            · exact HF.out g h
            · omega
    · have hm : i = min fs.length 20 := by omega
      have hex : ¬ i < fs.length ∨ (i < fs.length ∧ ¬ i < 20) := by omega
      have HM := Lib.hid hm
      have hF0 : ∀ f ∈ fs.take i, areBytesN f = true ∧ f.length ≤ 65536 := fun f hf => ⟨HB1.out f (List.mem_of_mem_take hf), HF.out f hf⟩
      have HFA := Lib.hid hF0
      have HBP : Hid (areBytesN pre = true) := Lib.hid (by rw [← HPRE.out]; exact joined_bytes _ fun f hf => (hF0 f hf).1)
      have HPF : Hid (∀ j, (eatAll (pre.take j)).2.2 = 3) := Lib.hid (by rw [← HPRE.out]; exact fun j => eat_prefix _ j hF0)
      clear hm hlt hF0
      rcases hex with q1 | ⟨q1, q2⟩
      all_goals
        go_wp2_with (first
          | (go_at_call 41; refine (chunkNew_is _).mono ?_; rintro e w1 ⟨rfl, hk, hb⟩; have HK1 := Lib.hid hk; have HA1 := Lib.hid (Kd.R_below HA.out hb); have HW1 := Lib.hid (HW.out.trans (hb.mono HW.out.size)); have hz1 : w.heap.size ≤ wr.heap.size := HW.out.size; clear hk hb))
        obtain ⟨B, hB⟩ : ∃ B, wr.heap.size = B := ⟨_, rfl⟩
        rw [hB] at HK1 hz1 ⊢
        clear hB HA HW HCA
        go_loopg [10, 12, 13] (ct.length + 1) (fun g s10 s12 s13 wx => ∃ (j at_ : Nat), s13 = .int .i64 j ∧ j ≤ ct.length ∧ g = ct.length + 1 - j ∧ s12 = .int .i64 at_ ∧ at_ ≤ pre.length ∧ Hid (OUT wx w.heap.size s10 (eatAll (pre.take at_)).1) ∧
          Hid (∃ v, ChunkS wx B 1 v (feedW (pre.take at_)) ((eatAll (pre.take at_)).1.length : Int)) ∧ Hid (BR wx w.heap.size (.slice Aa pre.length ka) pre) ∧ Hid (Below w.heap.size w wx))
        case atStart =>
          have e0 : eatAll (pre.take 0) = ([], 0, 3) := eatAll_nil
          have e1 : feedW (pre.take 0) = [] := by rw [List.take_zero]; decide +kernel
          exact ⟨0, 0, rfl, by omega, by omega, rfl, by omega, Lib.hid (by rw [e0]; exact Kd.R_nil _ _ _ _ _), Lib.hid ⟨_, by rw [e0, e1]; exact HK1.out⟩, HA1, HW1⟩
        case round =>
          clear HK1 HA1 HW1
          obtain ⟨j, at_, rfl, hj, hgj, rfl, hat, HO, HK, HA, HW⟩ := hrel
          obtain ⟨v, HKv⟩ : ∃ v, Hid (ChunkS wr B 1 v (feedW (pre.take at_)) ((eatAll (pre.take at_)).1.length : Int)) := ⟨HK.out.choose, Lib.hid HK.out.choose_spec⟩
          have hp1 := HPF.out at_
          have hpb := areBytesN_take HBP.out at_
          have hwl := feedW_le (pre.take at_)
          have hcn := eat_count (pre.take at_) hpb ((pre.take at_).length + 1) 0 (by omega)
          change ((eatAll (pre.take at_)).1.length : Int) ≤ _ at hcn
          rw [List.length_take] at hwl hcn
          obtain ⟨A0, k0, rfl, _, _⟩ := Kd.R_reads HO.out
          have hlo : ∀ k, Value.ownBlock (.slice A0 (eatAll (pre.take at_)).1.length k0) = some k → k < wr.heap.size := OUT.lt HO.out
          obtain ⟨os, hos⟩ : ∃ os, (eatAll (pre.take at_)).1 = os := ⟨_, rfl⟩
          obtain ⟨fw, hfw⟩ : ∃ fw, feedW (pre.take at_) = fw := ⟨_, rfl⟩
          rw [hos] at HO HKv hcn hlo ⊢
          rw [hfw] at HKv hwl
          have HOS := Lib.hid hos
          have HFW := Lib.hid hfw
          have HP1 := Lib.hid hp1
          have HPB := Lib.hid hpb
          have HLO := Lib.hid hlo
          obtain ⟨i0, hi0, hsz0⟩ : ∃ i0, Try.prog.info? 5 = some i0 ∧ i0.size = 1 := by obtain ⟨i0, h, _, h2, _⟩ := info_parts info_u8; exact ⟨i0, h, h2⟩
          clear hos hfw hp1 hpb hlo HK
          by_cases hlt : j < ct.length ∧ at_ < pre.length
          · obtain ⟨p1, p2⟩ := hlt
            obtain ⟨ac, e1, hcc⟩ := Kd.at_int (Kd.C_below H2.out HW.out) (j : Int) (by omega) (by omega)
            subst e1
            obtain ⟨hc0, hc1⟩ := getN_get HB2.out p1
            have hrd : rd ct (j : Int) = ct.getD j 0 := rfl
            rw [hrd, Int.toNat_natCast] at hcc
            clear hrd
            generalize ct.getD j 0 = cb at hcc hc0 hc1
            obtain ⟨k, hk⟩ : ∃ k : Nat, (if (pre.length : Int) - (at_ : Int) < cb then (pre.length : Int) - (at_ : Int) else cb) = (k : Int) := by
              by_cases h : (pre.length : Int) - (at_ : Int) < cb
              · exact ⟨pre.length - at_, by rw [if_pos h]; omega⟩
              · exact ⟨cb.toNat, by rw [if_neg h]; omega⟩
            have hkl : at_ + k ≤ pre.length := by split at hk <;> omega
            obtain ⟨Ac, hcut, hAc, hkc⟩ := print_mid_of (P := Try.prog) (Value.int .u8) 0 27 5 .i64 .i64 Try.underlying27 hi0 hsz0 Aa ka pre (at_ : Int) ((at_ : Int) + (k : Int)) (by omega) (by omega) (by omega) hka
            rw [show ((at_ : Int) + (k : Int)).toNat = at_ + k by omega, Int.toNat_natCast] at hcut hAc hkc
            have hCc : ∀ W, Kd.C (Kd.int .u8) W Aa pre.length pre → Kd.C (Kd.int .u8) W Ac ((pre.take (at_ + k)).drop at_).length ((pre.take (at_ + k)).drop at_) := fun W h => Kd.C_of_reads (h1 := fun _ => rfl) (hAc W (Kd.reads_of_C h))
            have hpc := take_mid_ pre at_ k
            have hcb := areBytesN_drop (areBytesN_take HBP.out (at_ + k)) at_
            have hcl : ((pre.take (at_ + k)).drop at_).length ≤ pre.length := by rw [List.length_drop, List.length_take]; omega
            obtain ⟨c, hc⟩ : ∃ c, (pre.take (at_ + k)).drop at_ = c := ⟨_, rfl⟩
            rw [hc] at hcut hCc hkc hpc hcb hcl
            obtain ⟨g1, g2, g3, g4, g5⟩ := piece (pre.take at_) c HPB.out hcb HP1.out (by rw [hpc]; exact HPF.out _)
            rw [hpc] at g1 g4 g5
            rw [HOS.out] at g1 g5
            rw [HFW.out] at g1 g2 g3 g4 g5
            have hcn2 := eat_count (fw ++ c) (by rw [← HFW.out]; exact areBytesN_append (feedW_bytes _ HPB.out) hcb) ((fw ++ c).length + 1) 0 (by omega)
            change ((eatAll (fw ++ c)).1.length : Int) ≤ _ at hcn2
            rw [List.length_append] at hcn2
            obtain ⟨os2, hos2⟩ : ∃ os2, (eatAll (fw ++ c)).1 = os2 := ⟨_, rfl⟩
            rw [hos2] at g1 g5 hcn2
            have hsum : os.length + os2.length ≤ 4194304 := by omega
            have G1 := Lib.hid g1
            have G2 := Lib.hid g2
            have G3 := Lib.hid g3
            have G4 := Lib.hid g4
            have G5 := Lib.hid g5
            have HOS2 := Lib.hid hos2
            have HCC := Lib.hid hCc
            have HCB := Lib.hid hcb
            have HKC := Lib.hid hkc
            clear g1 g2 g3 g4 g5 hos2 hCc hcb hc hpc hAc hi0 hsz0 hkc
            go_wp2_with (first
              | (go_at_call 42; refine (feed_is HKv.out Ac _ (HCC.out _ (BR.C HA.out)) HKC.out HCB.out (by omega) (by omega) (by omega)).mono ?_; rintro e w3 ⟨o3, v3, rfl, ho, hkk, hg⟩; rw [G2.out]; rw [HOS2.out] at ho hkk; rw [G3.out, G4.out, G5.out] at hkk; obtain ⟨A3, k3, rfl, _, _⟩ := Kd.R_reads ho; have HO3 := Lib.hid ho; have HK3 := Lib.hid hkk; have HX3 := Lib.hid (OUT.other HO.out HKv.out.at_ hg); have HA3 := Lib.hid (BR.chunk HA.out HKv.out.at_ hg); have HW3 := Lib.hid (HW.out.grown hg HW.out.size (fun k e => by cases e; exact hz1)); clear ho hkk hg)
              | (at_builtin; refine OUT.rows2_ev (w := w3) (base := w.heap.size) (n0 := wr.heap.size) HX3.out HLO.out HW.out.size HO3.out rfl (.tmp 100) (.tmp 101) rfl rfl rfl HW3.out.size hsum ?_; intro v4 w4 ho hb hg; rw [G1.out] at ho; have HK4 := Lib.hid (HK3.out.past HX3.out hg); have HA4 := Lib.hid (BR.past HA3.out HX3.out hg); have HW4 := Lib.hid (HW3.out.trans hb); have HO4 := Lib.hid ho; clear ho hb hg))
            go_roundg (ct.length + 1 - (j + 1))
            case measure => omega
            case rel => exact ⟨j + 1, at_ + k, by go_num, by omega, rfl, by go_num, hkl, HO4, Lib.hid ⟨_, HK4.out⟩, HA4, HW4⟩
          · have hex2 : ¬ j < ct.length ∨ (j < ct.length ∧ ¬ at_ < pre.length) := by omega
            clear hlt
            obtain ⟨Ac, hcut, hAc, hkc⟩ := print_drop_of (P := Try.prog) (Value.int .u8) 0 27 5 .i64 Try.underlying27 hi0 hsz0 Aa ka pre (at_ : Int) (by omega) (by omega) hka
            rw [Int.toNat_natCast] at hcut hAc hkc
            have hCc : ∀ W, Kd.C (Kd.int .u8) W Aa pre.length pre → Kd.C (Kd.int .u8) W Ac (pre.drop at_).length (pre.drop at_) := fun W h => Kd.C_of_reads (h1 := fun _ => rfl) (hAc W (Kd.reads_of_C h))
            have hpc : pre.take at_ ++ pre.drop at_ = pre := List.take_append_drop _ _
            have hcb := areBytesN_drop HBP.out at_
            have hcl : (pre.drop at_).length ≤ pre.length := by rw [List.length_drop]; omega
            obtain ⟨c, hc⟩ : ∃ c, pre.drop at_ = c := ⟨_, rfl⟩
            rw [hc] at hcut hCc hkc hpc hcb hcl
            have hall3 : eatAll pre = (fs.take i, (pre.length : Int), 3) := by have := eat_joined (fs.take i) HFA.out; rwa [HPRE.out] at this
            have hw0 : feedW pre = [] := by have := (feedW_joined (fs.take i) HFA.out).1; rwa [HPRE.out] at this
            obtain ⟨g1, g2, g3, g4, g5⟩ := piece (pre.take at_) c HPB.out hcb HP1.out (by rw [hpc, hall3])
            rw [hpc] at g1 g4 g5
            rw [hall3] at g1 g5
            rw [hw0] at g4
            rw [HOS.out] at g1 g5
            rw [HFW.out] at g1 g2 g3 g4 g5
            simp only at g1 g5
            have hcn2 := eat_count (fw ++ c) (by rw [← HFW.out]; exact areBytesN_append (feedW_bytes _ HPB.out) hcb) ((fw ++ c).length + 1) 0 (by omega)
            change ((eatAll (fw ++ c)).1.length : Int) ≤ _ at hcn2
            rw [List.length_append] at hcn2
            obtain ⟨os2, hos2⟩ : ∃ os2, (eatAll (fw ++ c)).1 = os2 := ⟨_, rfl⟩
            rw [hos2] at g1 g5 hcn2
            have hsum : os.length + os2.length ≤ 4194304 := by omega
            have him : i ≤ fs.length := hi1
            have hFR := fun W (h : Below w.heap.size w W) => C_take_rows (Kd.C_below H1.out h) i him
            have hti : (fs.take i).length = i := by rw [List.length_take]; omega
            obtain ⟨fi, hfi⟩ : ∃ fi, fs.take i = fi := ⟨_, rfl⟩
            rw [hfi] at g1 g5 hFR hti
            have HTI := Lib.hid hti
            have hc1 := HC1.out
            have G1 := Lib.hid g1
            have G2 := Lib.hid g2
            have G3 := Lib.hid g3
            have G4 := Lib.hid g4
            have G5 := Lib.hid g5
            have HOS2 := Lib.hid hos2
            have HCC := Lib.hid hCc
            have HCB := Lib.hid hcb
            have HKC := Lib.hid hkc
            have HFR := Lib.hid hFR
            have hce : closeE [] = 0 := rfl
            clear g1 g2 g3 g4 g5 hos2 hCc hcb hc hpc hAc hi0 hsz0 hkc hall3 hw0 hFR hfi hti
            by_cases h20 : 20 < fs.length
            · have hn : (20 : Nat) = fi.length := by rw [HTI.out, HM.out]; omega
              have HNN := Lib.hid hn
              clear hn
              rcases hex2 with p1 | ⟨p1, p2⟩
              all_goals
                go_wp2_with (first
                  | (go_at_call 42; refine (feed_is HKv.out Ac _ (HCC.out _ (BR.C HA.out)) HKC.out HCB.out (by omega) (by omega) (by omega)).mono ?_; rintro e w3 ⟨o3, v3, rfl, ho, hkk, hg⟩; rw [G2.out]; rw [HOS2.out] at ho hkk; rw [G3.out, G4.out, G5.out] at hkk; obtain ⟨A3, k3, rfl, _, _⟩ := Kd.R_reads ho; have HO3 := Lib.hid ho; have HK3 := Lib.hid hkk; have HX3 := Lib.hid (OUT.other HO.out HKv.out.at_ hg); have HA3 := Lib.hid (BR.chunk HA.out HKv.out.at_ hg); have HW3 := Lib.hid (HW.out.grown hg HW.out.size (fun k e => by cases e; exact hz1)); clear ho hkk hg)
                  | (at_builtin; refine OUT.rows2_ev (w := w3) (base := w.heap.size) (n0 := wr.heap.size) HX3.out HLO.out HW.out.size HO3.out rfl (.tmp 114) (.tmp 115) rfl rfl rfl HW3.out.size hsum ?_; intro v4 w4 ho hb hg; rw [G1.out] at ho; have HK4 := Lib.hid (HK3.out.past HX3.out hg); have HA4 := Lib.hid (BR.past HA3.out HX3.out hg); have HW4 := Lib.hid (HW3.out.trans hb); obtain ⟨A4, k4, rfl, _, _⟩ := Kd.R_reads ho; have HC4 := Lib.hid (OUT.C ho); have HO4 := Lib.hid ho; clear ho hb hg)
                  | (go_at_call 43; refine (same_yes_ w4 A4 A1 k4 c1 fi 20 HNN.out HC4.out (HFR.out _ HW4.out)).mono ?_; rintro e w5 ⟨rfl, hb⟩; have HK5 := Lib.hid (HK4.out.below hb (Nat.le_refl _)); have HW5 := Lib.hid (HW4.out.trans (hb.mono HW4.out.size)); clear hb)
                  | (go_at_call 45; refine (waiting_is HK5.out).mono ?_; rintro e w' ⟨rfl, rfl⟩)
                  | (go_at_call 46; refine (frames_is HK5.out).mono ?_; rintro e w' ⟨rfl, rfl⟩)
                  | (go_at_call 48; refine (close_is HK5.out).mono ?_; rintro e w6 ⟨rfl, hk, hg⟩; have HW6 := Lib.hid (HW5.out.grown hg HW5.out.size (fun k e => by cases e; exact hz1)); clear hk hg)
                  | (go_at_call 44; refine (awake32_is _).mono ?_; rintro e w7 ⟨rfl, hb⟩; have HW7 := Lib.hid (HW6.out.trans (hb.mono HW6.out.size)); clear hb))
                go_ret
                exact ⟨rfl, HW7.out⟩
            · first
              | exfalso
                omega
              | have hn : fs.length = fi.length := by rw [HTI.out, HM.out]; omega
                have HNN := Lib.hid hn
                clear hn
                rcases hex2 with p1 | ⟨p1, p2⟩
                all_goals
                  go_wp2_with (first
                    | (go_at_call 42; refine (feed_is HKv.out Ac _ (HCC.out _ (BR.C HA.out)) HKC.out HCB.out (by omega) (by omega) (by omega)).mono ?_; rintro e w3 ⟨o3, v3, rfl, ho, hkk, hg⟩; rw [G2.out]; rw [HOS2.out] at ho hkk; rw [G3.out, G4.out, G5.out] at hkk; obtain ⟨A3, k3, rfl, _, _⟩ := Kd.R_reads ho; have HO3 := Lib.hid ho; have HK3 := Lib.hid hkk; have HX3 := Lib.hid (OUT.other HO.out HKv.out.at_ hg); have HA3 := Lib.hid (BR.chunk HA.out HKv.out.at_ hg); have HW3 := Lib.hid (HW.out.grown hg HW.out.size (fun k e => by cases e; exact hz1)); clear ho hkk hg)
                    | (at_builtin; refine OUT.rows2_ev (w := w3) (base := w.heap.size) (n0 := wr.heap.size) HX3.out HLO.out HW.out.size HO3.out rfl (.tmp 114) (.tmp 115) rfl rfl rfl HW3.out.size hsum ?_; intro v4 w4 ho hb hg; rw [G1.out] at ho; have HK4 := Lib.hid (HK3.out.past HX3.out hg); have HA4 := Lib.hid (BR.past HA3.out HX3.out hg); have HW4 := Lib.hid (HW3.out.trans hb); obtain ⟨A4, k4, rfl, _, _⟩ := Kd.R_reads ho; have HC4 := Lib.hid (OUT.C ho); have HO4 := Lib.hid ho; clear ho hb hg)
                    | (go_at_call 43; refine (same_yes_ w4 A4 A1 k4 c1 fi fs.length HNN.out HC4.out (HFR.out _ HW4.out)).mono ?_; rintro e w5 ⟨rfl, hb⟩; have HK5 := Lib.hid (HK4.out.below hb (Nat.le_refl _)); have HW5 := Lib.hid (HW4.out.trans (hb.mono HW4.out.size)); clear hb)
                    | (go_at_call 45; refine (waiting_is HK5.out).mono ?_; rintro e w' ⟨rfl, rfl⟩)
                    | (go_at_call 46; refine (frames_is HK5.out).mono ?_; rintro e w' ⟨rfl, rfl⟩)
                    | (go_at_call 48; refine (close_is HK5.out).mono ?_; rintro e w6 ⟨rfl, hk, hg⟩; have HW6 := Lib.hid (HW5.out.grown hg HW5.out.size (fun k e => by cases e; exact hz1)); clear hk hg)
                    | (go_at_call 44; refine (awake32_is _).mono ?_; rintro e w7 ⟨rfl, hb⟩; have HW7 := Lib.hid (HW6.out.trans (hb.mono HW6.out.size)); clear hb))
                  go_ret
                  exact ⟨rfl, HW7.out⟩

/-- The form that the row calls. -/
theorem whole_row (A1 : Option Addr) (c1 : Nat) (fs : List (List Int)) (A2 : Option Addr) (c2 : Nat) (ct : List Int) (w : World) (hr1 : (Kd.slice 5 (Kd.int .u8)).C w A1 fs.length fs) (hc1 : fs.length ≤ c1) (w1 : fs.length * 24 ≤ 140737488351232 ∧ ∀ x ∈ fs, x.length * 1 ≤ 140737488351232 ∧ ∀ y ∈ x, (Lit.int .u8 y).wf = true)
    (hr2 : (Kd.int .u8).C w A2 ct.length ct) (hc2 : ct.length ≤ c2) (w2 : ct.length * 1 ≤ 140737488351232 ∧ ∀ x ∈ ct, (Lit.int .u8 x).wf = true) :
    Calls Try.prog 7 #[.slice A1 fs.length c1, .slice A2 ct.length c2] w fun e w' => e = .returned (.bool true) ∧ Below w.heap.size w w' := by
  have hb : ∀ l : List Int, (∀ x ∈ l, (Lit.int .u8 x).wf = true) → areBytesN l = true := fun l h => by
    unfold areBytesN
    rw [List.all_eq_true]
    intro x hx
    have := h x hx
    simp [Lit.wf, IntKind.min, IntKind.max, IntKind.bits, IntKind.signed] at this
    simpa using this
  exact whole_walk A1 c1 fs A2 c2 ct w hr1 hc1 (fun f hf => hb f (w1.2 f hf).2) hr2 (hb ct w2.2)

end Go.Proofs.Ytmbnjgnmblgjoaa.Man
