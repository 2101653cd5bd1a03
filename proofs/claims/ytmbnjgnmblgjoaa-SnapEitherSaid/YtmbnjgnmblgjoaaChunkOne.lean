/- The statement ChunkOne, stepped through: bytes in two pieces tell what they tell at once. Condition: the two hold together at most 1048576 bytes. -/
import Derived.Test.YtmbnjgnmblgjoaaSame
namespace Go.Proofs.Ytmbnjgnmblgjoaa.Man
open Go.RowKit Go.Proofs.YtmbnjgnmblgjoaaW.PrintWords Go.Proofs.YtmbnjgnmblgjoaaW.PrintLast Go.Proofs.YtmbnjgnmblgjoaaW.PrintMore
set_option linter.unusedVariables false
set_option linter.unusedSimpArgs false
set_option maxRecDepth 100000

theorem BR.empty (W : World) (base : Nat) (hb : base ≤ W.heap.size) : BR (W.alloc (.cells #[] 5)) base (.slice (some ⟨W.heap.size, 0, none⟩) 0 0) [] :=
  Kd.R_of_own (by have := own_lit W base 5 .u8 [] hb (by simp); simpa [nums, encs] using this) (fun _ _ => trivial)
theorem OUT.empty (W : World) (base : Nat) (hb : base ≤ W.heap.size) : OUT (W.alloc (.cells #[] 27)) base (.slice (some ⟨W.heap.size, 0, none⟩) 0 0) [] :=
  ⟨fun _ _ => trivial, [], by have := World.ownsRow_lit (base := base) (e := 27) (size := 1) W #[] 0 hb (by simp [maxLen]) (by simp); exact this, Reps.none _ _⟩
/-- Rows told, and a chunk that acts. -/
theorem OUT.other {w w1 : World} {base B : Nat} {v u : Value} {os : List (List Int)} {h n : Int} (o : OUT w base v os) (k : ChunkAt w B h u n) (hg : w.grownBy w1 (some B)) : OUT w1 base v os :=
  Kd.R_mono (Kd.R_grown (Kd.R_types o k (by decide)) hg (fun k hk => by simpa using hk.2)) (fun _ _ => trivial)
/-- Elder rows behind younger ones. -/
theorem OUT.rows_ev {ops : Array Oper} {rest : List Oper} {o : Oper} {a : Act} {Q : Exit → Act → World → Prop} {w : World} {base n0 : Nat} {v : Value} {os ps : List (List Int)} {A : Option Addr} {c : Nat}
    (h : OUT w base v os) (hv : ∀ k, v.ownBlock = some k → n0 ≤ k) (hn : n0 ≤ w.heap.size) (hs0 : Kd.R (Kd.slice 5 (Kd.int .u8)) 27 w base (fun k => k < n0) (.slice A ps.length c) ps)
    (hgd : o.guard = none) (s x : Operand) (ho : o.op = .call { callee := .builtin .append, args := #[s, x], argTypes := #[41, 41] })
    (hs : a.eval s = v) (hx : a.eval x = .slice A ps.length c) (hbase : base ≤ w.heap.size) (hl : os.length + ps.length ≤ 4194304)
    (k : ∀ v1 w1, OUT w1 base v1 (os ++ ps) → Below n0 w w1 → w.grownBy w1 v.ownBlock → (∀ k, v1.ownBlock = some k → n0 ≤ k) → wpList Try.prog ops Q rest (a.put o.dst v1) w1) : wpList Try.prog ops Q (o :: rest) a w := by
  obtain ⟨A', c', e, _, hr⟩ := OwnRow.reads hs0.2
  cases e
  refine Kd.R_append_rows (Kd.slice 5 (Kd.int .u8)) (w0 := w) base hgd s x 41 27 (.slice none 0 0) 24 ho Try.underlying41 info_row rfl (by decide) (by omega) v os ps A ps.length c (fun _ => True) (fun k => k < n0 ∧ some k ≠ Value.ownBlock (.slice A ps.length c)) hs hx h hr (fun _ _ h => h) (fun j hj => ⟨trivial, fun e => by have := hv j e.symm; omega⟩) (fun _ _ => trivial) (Below.refl _ _) hbase (by omega) ?_
  intro v1 w1 h1 _ h3 h4
  refine k v1 w1 h1 ⟨h3.os, h3.tape, h3.output, h3.size, fun i hi => h3.block i (by omega) (fun e => by have := hv i e.symm; omega)⟩ h3 fun j hj => ?_
  rcases h4 with h4 | ⟨b, h4, hb⟩
  · exact hv j (h4 ▸ hj)
  · rw [h4] at hj
    cases hj
    omega
theorem OUT.low {w : World} {base : Nat} {v : Value} {os : List (List Int)} (h : OUT w base v os) : Kd.R (Kd.slice 5 (Kd.int .u8)) 27 w base (fun k => k < w.heap.size) v os :=
  Kd.R_mono (Kd.R_bound h) (fun k hk => hk.2.2.1)

theorem eat_err (ws : List Int) : ∀ (k : Nat) (at_ : Int), (eat k ws at_).2.2 ≠ 0
  | 0, at_ => by rw [eat]; show (3 : Int) ≠ 0; decide
  | k + 1, at_ => by
    rw [eat]
    split
    · exact eat_err ws k _
    · assumption
theorem eat_count (ws : List Int) (hB : areBytesN ws = true) : ∀ (k : Nat) (at_ : Int), at_ ≤ ws.length → ((eat k ws at_).1.length : Int) ≤ ws.length - at_
  | 0, at_, h => by rw [eat]; simp; omega
  | k + 1, at_, h => by
    rw [eat]
    split
    · rename_i hok
      have := openF_ok ws at_ hB hok
      have := eat_count ws hB k (openF ws at_).2.1 (by omega)
      simp only [List.length_cons]
      omega
    · simp; omega

set_option maxHeartbeats 16000000 in
theorem one_bad (A1 : Option Addr) (c1 : Nat) (a : List Int) (A2 : Option Addr) (c2 : Nat) (b : List Int) (w : World) (hr1 : Kd.C (Kd.int .u8) w A1 a.length a) (hc1 : a.length ≤ c1) (hb1 : areBytesN a = true) (hr2 : Kd.C (Kd.int .u8) w A2 b.length b) (hc2 : b.length ≤ c2) (hb2 : areBytesN b = true)
    (hU : a.length + b.length ≤ 1048576) (h3 : (eatAll a).2.2 ≠ 3) :
    Calls Try.prog 5 #[.slice A1 a.length c1, .slice A2 b.length c2] w fun e w' => e = .returned (.bool true) ∧ Below w.heap.size w w' := by
  have hstop := one_stop a b hb1 hb2 h3
  have he0 : (eatAll a).2.2 ≠ 0 := eat_err _ _ _
  have hE1 : feedE a = (eatAll a).2.2 := by unfold feedE; exact if_neg h3
  have hE2 : feedE (a ++ b) = (eatAll a).2.2 := by unfold feedE; rw [hstop]; exact if_neg h3
  have hH1 : feedH a = 2 := by unfold feedH; exact if_neg h3
  have hbb := areBytesN_append hb1 hb2
  obtain ⟨os, hos⟩ : ∃ os, (eatAll a).1 = os := ⟨_, rfl⟩
  obtain ⟨er, her⟩ : ∃ er, (eatAll a).2.2 = er := ⟨_, rfl⟩
  rw [her] at hE1 hE2 he0
  have H1 := Lib.hid hr1
  have H2 := Lib.hid hr2
  have HB1 := Lib.hid hb1
  have HB2 := Lib.hid hb2
  have HE1 := Lib.hid hE1
  have HH1 := Lib.hid hH1
  have HOS := Lib.hid hos
  have hos2 : (eatAll (a ++ b)).1 = os := by rw [hstop, hos]
  obtain ⟨ab, hab⟩ : ∃ ab, a ++ b = ab := ⟨_, rfl⟩
  have hlab : ab.length ≤ 1048576 := by rw [← hab, List.length_append]; exact hU
  rw [hab] at hos2 hbb hE2
  have HAB := Lib.hid hab
  have HOS2 := Lib.hid hos2
  have HBB := Lib.hid hbb
  have HE2 := Lib.hid hE2
  have hne : (er != 0) = true := by simpa using he0
  have hN := Lib.hid hc1
  clear hr1 hr2 hb1 hb2 hbb hE1 hE2 hH1 hos hstop he0 her h3 hab hos2
  go_enter Try.func5, Try.ntmps5
  go_upto_region 2 with (first
    | (go_at_call 41; refine (chunkNew_is _).mono ?_; rintro e w1 ⟨rfl, hk, hb⟩; have HC1 := Lib.hid hk; have HW1 := Lib.hid hb; have hz1 : w.heap.size < w1.heap.size := hk.at_.lt; clear hk hb))
  go_upto_region 7 with (first
    | (go_at_call 41; refine (chunkNew_is _).mono ?_; rintro e w2 ⟨rfl, hk, hb⟩; have HD2 := Lib.hid hk; have HC2 := Lib.hid (HC1.out.below hb (Nat.le_refl _)); have HW2 := Lib.hid (HW1.out.trans (hb.mono HW1.out.size)); have hz2 : w1.heap.size < w2.heap.size := hk.at_.lt; clear hk hb)
    | (go_at_call_of 42 (Value.slice A1 a.length c1); refine (feed_is HC2.out A1 c1 (Kd.C_below H1.out HW2.out) hN.out HB1.out (by simp only [List.length_nil]; omega) (by decide) (by decide)).mono ?_; rintro e w3 ⟨o3, v3, rfl, ho, hk, hg⟩; rw [List.nil_append] at ho hk ⊢; rw [HE1.out]; rw [HOS.out] at ho; rw [HH1.out] at hk; obtain ⟨A3, k3, rfl, _, _⟩ := Kd.R_reads ho; have HO3 := Lib.hid ho; have HC3 := Lib.hid hk; have HD3 := Lib.hid (HD2.out.other HC2.out (by omega) hg); have HW3 := Lib.hid (HW2.out.grown hg HW2.out.size (fun k e => by cases e; exact Nat.le_refl _)); clear ho hk hg)
    | (go_at_call 42; refine (feed_over HC3.out A2 b.length c2).mono ?_; rintro e w4 ⟨rfl, rfl⟩))
  go_wp2_with (first
    | (at_builtin; refine BR.append_ev (w := w3.alloc (.cells #[] 5)) (BR.empty w3 w3.heap.size (Nat.le_refl _)) (ys := a) (c := c1) (Kd.C_below H1.out (HW3.out.alloc HW3.out.size _)) rfl (.tmp 35) (.tmp 36) rfl rfl rfl (by simp) (by simp only [List.length_nil]; omega) ?_; intro v5 w5 hr hb hat; rw [List.nil_append] at hr; obtain ⟨A5, k5, rfl, _, _⟩ := BR.len hr; have HR5 := Lib.hid hr; have HB5 := Lib.hid (((Below.refl _ w3).alloc (Nat.le_refl _) _).trans hb); have HW5 := Lib.hid (HW3.out.trans (HB5.out.mono HW3.out.size)); clear hr hb hat)
    | (at_builtin; refine BR.append_ev (w := w5) HR5.out (ys := b) (c := c2) (Kd.C_below H2.out HW5.out) rfl (.tmp 37) (.tmp 38) rfl rfl rfl HB5.out.size (by omega) ?_; intro v6 w6 hr hb hat; rw [HAB.out] at hr; obtain ⟨A6, k6, rfl, hk6, hC6⟩ := BR.len hr; have hB6 := HB5.out.trans hb; have HB6 := Lib.hid hB6; have HK6 := Lib.hid hk6; have HC6 := Lib.hid hC6; have HW6 := Lib.hid (HW3.out.trans (hB6.mono HW3.out.size)); have HD6 := Lib.hid (HD3.out.below hB6 (Nat.le_refl _)); have HO6 := Lib.hid (Kd.R_below HO3.out hB6); clear hr hb hat hk6 hC6 hB6)
    | (go_at_call 42; refine (feed_is HD6.out A6 k6 HC6.out HK6.out HBB.out (by simp only [List.length_nil]; omega) (by decide) (by decide)).mono ?_; rintro e w7 ⟨o7, v7, rfl, ho, hk, hg⟩; rw [List.nil_append] at ho hk ⊢; rw [HE2.out]; rw [HOS2.out] at ho; obtain ⟨A7, k7, rfl, _, hC7⟩ := Kd.R_reads ho; have HW7 := Lib.hid (HW6.out.grown hg HW6.out.size (fun k e => by cases e; omega)); have HO7 := Lib.hid (OUT.other HO6.out HD6.out.at_ hg); have HC7 := Lib.hid hC7; clear ho hk hg hC7)
    | (go_at_call 43; refine (same_yes _ A3 A7 k3 k7 os (by obtain ⟨A, c, e, _, h⟩ := Kd.R_reads HO7.out; cases e; exact h) HC7.out).mono ?_; rintro e w8 ⟨rfl, hb⟩; have HW8 := Lib.hid (HW7.out.trans (hb.mono HW7.out.size)); clear hb)
    | (go_at_call 44; refine (awake32_is _).mono ?_; rintro e w9 ⟨rfl, hb⟩; have HW9 := Lib.hid (HW8.out.trans (hb.mono HW8.out.size)); clear hb))
  go_ret
  exact ⟨rfl, HW9.out⟩
theorem feedW_le (a : List Int) : (feedW a).length ≤ a.length := by
  unfold feedW
  split
  · rw [List.length_drop]; omega
  · simp
theorem feedW_bytes (a : List Int) (h : areBytesN a = true) : areBytesN (feedW a) = true := by
  unfold feedW
  split
  · exact areBytesN_drop h _
  · rfl

set_option maxHeartbeats 16000000 in
theorem one_good (A1 : Option Addr) (c1 : Nat) (a : List Int) (A2 : Option Addr) (c2 : Nat) (b : List Int) (w : World) (hr1 : Kd.C (Kd.int .u8) w A1 a.length a) (hc1 : a.length ≤ c1) (hb1 : areBytesN a = true) (hr2 : Kd.C (Kd.int .u8) w A2 b.length b) (hc2 : b.length ≤ c2) (hb2 : areBytesN b = true)
    (hU : a.length + b.length ≤ 1048576) (h3 : (eatAll a).2.2 = 3) :
    Calls Try.prog 5 #[.slice A1 a.length c1, .slice A2 b.length c2] w fun e w' => e = .returned (.bool true) ∧ Below w.heap.size w w' := by
  obtain ⟨k1, k2, k3, k4⟩ := one_on a b hb1 hb2 h3
  have hE1 : feedE a = 0 := by unfold feedE; exact if_pos h3
  have hH1 : feedH a = 1 := by unfold feedH; exact if_pos h3
  have hbb := areBytesN_append hb1 hb2
  have hwl := feedW_le a
  have hcnt : ((eatAll a).1.length : Int) ≤ a.length - 0 := eat_count a hb1 _ 0 (by omega)
  obtain ⟨os, hos⟩ : ∃ os, (eatAll a).1 = os := ⟨_, rfl⟩
  obtain ⟨q, hq⟩ : ∃ q, feedW a ++ b = q := ⟨_, rfl⟩
  obtain ⟨fw, hfw⟩ : ∃ fw, feedW a = fw := ⟨_, rfl⟩
  rw [hfw] at hq hwl
  rw [hos] at k1 hcnt
  have hql : q.length ≤ 1048576 := by rw [← hq, List.length_append]; omega
  rw [hfw, hq] at k1 k2 k3 k4
  have hcnt2 : ((eatAll q).1.length : Int) ≤ q.length - 0 := eat_count q (by rw [← hq, ← hfw]; exact areBytesN_append (feedW_bytes a hb1) hb2) _ 0 (by omega)
  obtain ⟨os2, hos2⟩ : ∃ os2, (eatAll q).1 = os2 := ⟨_, rfl⟩
  rw [hos2] at k1 hcnt2
  obtain ⟨ab, hab⟩ : ∃ ab, a ++ b = ab := ⟨_, rfl⟩
  have hlab : ab.length ≤ 1048576 := by rw [← hab, List.length_append]; exact hU
  rw [hab] at k1 k2 k3 k4 hbb
  obtain ⟨E, hE⟩ : ∃ E, feedE q = E := ⟨_, rfl⟩
  obtain ⟨h, hh⟩ : ∃ h, feedH q = h := ⟨_, rfl⟩
  obtain ⟨W, hW⟩ : ∃ W, feedW q = W := ⟨_, rfl⟩
  rw [hE] at k2
  rw [hh] at k3
  rw [hW] at k4
  obtain ⟨os3, hos3⟩ : ∃ os3, os ++ os2 = os3 := ⟨_, rfl⟩
  rw [hos3] at k1
  obtain ⟨N, hN⟩ : ∃ N : Int, 0 + (os.length : Int) + (os2.length : Int) = N := ⟨_, rfl⟩
  have hN2 : 0 + (os3.length : Int) = N := by rw [← hN, ← hos3, List.length_append]; omega
  have hsum : os.length + os2.length ≤ 4194304 := by omega
  have H1 := Lib.hid hr1
  have H2 := Lib.hid hr2
  have HB1 := Lib.hid hb1
  have HB2 := Lib.hid hb2
  have HBB := Lib.hid hbb
  have HE1 := Lib.hid hE1
  have HH1 := Lib.hid hH1
  have HOS := Lib.hid hos
  have HQ := Lib.hid hq
  have HFW := Lib.hid hfw
  have HOS2 := Lib.hid hos2
  have HOS3 := Lib.hid hos3
  have HAB := Lib.hid hab
  have HE := Lib.hid hE
  have HH := Lib.hid hh
  have HWW := Lib.hid hW
  have HN := Lib.hid hN
  have HN2 := Lib.hid hN2
  have K1 := Lib.hid k1
  have K2 := Lib.hid k2
  have K3 := Lib.hid k3
  have K4 := Lib.hid k4
  have hN1 := Lib.hid hc1
  have hNb := Lib.hid hc2
  clear hr1 hr2 hb1 hb2 hbb hE1 hH1 hos hq hfw hos2 hos3 hab hE hh hW hN hN2 k1 k2 k3 k4 h3 hc1 hc2
  go_enter Try.func5, Try.ntmps5
  go_upto_region 2 with (first
    | (go_at_call 41; refine (chunkNew_is _).mono ?_; rintro e w1 ⟨rfl, hk, hb⟩; have HC1 := Lib.hid hk; have HW1 := Lib.hid hb; have hz1 : w.heap.size < w1.heap.size := hk.at_.lt; clear hk hb))
  go_upto_region 6 with (first
    | (go_at_call 41; refine (chunkNew_is _).mono ?_; rintro e w2 ⟨rfl, hk, hb⟩; have HD2 := Lib.hid hk; have HC2 := Lib.hid (HC1.out.below hb (Nat.le_refl _)); have HW2 := Lib.hid (HW1.out.trans (hb.mono HW1.out.size)); have hz2 : w1.heap.size < w2.heap.size := hk.at_.lt; clear hk hb)
    | (go_at_call 42; refine (feed_is HC2.out A1 c1 (Kd.C_below H1.out HW2.out) hN1.out HB1.out (by simp only [List.length_nil]; omega) (by decide) (by decide)).mono ?_; rintro e w3 ⟨o3, v3, rfl, ho, hk, hg⟩; rw [List.nil_append] at ho hk ⊢; rw [HE1.out]; rw [HOS.out] at ho hk; rw [HH1.out, HFW.out] at hk; obtain ⟨A3, k3, rfl, _, _⟩ := Kd.R_reads ho; have HO3 := Lib.hid (Kd.R_lower ho HW2.out.size); have HC3 := Lib.hid hk; have HD3 := Lib.hid (HD2.out.other HC2.out (by omega) hg); have HW3 := Lib.hid (HW2.out.grown hg HW2.out.size (fun k e => by cases e; exact Nat.le_refl _)); have hz3 : w1.heap.size < w3.heap.size := HD3.out.at_.lt; clear ho hk hg))
  go_upto_region 7 with (first
    | (go_at_call 42; refine (feed_is HC3.out A2 c2 (Kd.C_below H2.out HW3.out) hNb.out HB2.out (by omega) (by omega) (by omega)).mono ?_; rintro e w4 ⟨o4, v4, rfl, ho, hk, hg⟩; rw [HQ.out] at ho hk ⊢; rw [HE.out]; rw [HOS2.out] at ho hk; rw [HH.out, HWW.out, HN.out] at hk; obtain ⟨A4, k4, rfl, _, _⟩ := Kd.R_reads ho; have HO4 := Lib.hid (Kd.R_lower ho HW3.out.size); have HC4 := Lib.hid hk; have HD4 := Lib.hid (HD3.out.other HC3.out (by omega) hg); have HX4 := Lib.hid (OUT.other HO3.out HC3.out.at_ hg); have HW4 := Lib.hid (HW3.out.grown hg HW3.out.size (fun k e => by cases e; exact Nat.le_refl _)); have hz4 : w1.heap.size < w4.heap.size := HD4.out.at_.lt; clear ho hk hg))
  go_upto_region 8 with (first
    | (at_builtin; refine BR.append_ev (w := w4.alloc (.cells #[] 5)) (BR.empty w4 w4.heap.size (Nat.le_refl _)) (ys := a) (c := c1) (Kd.C_below H1.out (HW4.out.alloc HW4.out.size _)) rfl (.tmp 35) (.tmp 36) rfl rfl rfl (by simp) (by simp only [List.length_nil]; omega) ?_; intro v5 w5 hr hb hat; rw [List.nil_append] at hr; obtain ⟨A5, k5, rfl, _, _⟩ := BR.len hr; have HR5 := Lib.hid hr; have HB5 := Lib.hid (((Below.refl _ w4).alloc (Nat.le_refl _) _).trans hb); have HW5 := Lib.hid (HW4.out.trans (HB5.out.mono HW4.out.size)); clear hr hb hat)
    | (at_builtin; refine BR.append_ev (w := w5) HR5.out (ys := b) (c := c2) (Kd.C_below H2.out HW5.out) rfl (.tmp 37) (.tmp 38) rfl rfl rfl HB5.out.size (by omega) ?_; intro v6 w6 hr hb hat; rw [HAB.out] at hr; obtain ⟨A6, k6, rfl, hk6, hC6⟩ := BR.len hr; have hB6 := HB5.out.trans hb; have HK6 := Lib.hid hk6; have HR6 := Lib.hid hC6; have HW6 := Lib.hid (HW4.out.trans (hB6.mono HW4.out.size)); have HD6 := Lib.hid (HD4.out.below hB6 (Nat.le_refl _)); have HC6 := Lib.hid (HC4.out.below hB6 (Nat.le_refl _)); have HX6 := Lib.hid (Kd.R_below HX4.out hB6); have HY6 := Lib.hid (Kd.R_below HO4.out hB6); clear hr hb hat hk6 hC6 hB6)
    | (go_at_call 42; refine (feed_is HD6.out A6 k6 HR6.out HK6.out HBB.out (by simp only [List.length_nil]; omega) (by decide) (by decide)).mono ?_; rintro e w7 ⟨o7, v7, rfl, ho, hk, hg⟩; rw [List.nil_append] at ho hk ⊢; rw [K2.out]; rw [K1.out] at ho hk; rw [K3.out, K4.out, HN2.out] at hk; obtain ⟨A7, k7, rfl, _, hC7⟩ := Kd.R_reads ho; have HW7 := Lib.hid (HW6.out.grown hg HW6.out.size (fun k e => by cases e; omega)); have HX7 := Lib.hid (OUT.other HX6.out HD6.out.at_ hg); have HY7 := Lib.hid (OUT.other HY6.out HD6.out.at_ hg); have HZ7 := Lib.hid hC7; have HD7 := Lib.hid hk; have HC7 := Lib.hid (HC6.out.other HD6.out (by omega) hg); clear ho hk hg hC7))
  have hbe : Below w7.heap.size w7 (w7.alloc (.cells #[] 27)) := (Below.refl _ _).alloc (Nat.le_refl _) _
  have HBE := Lib.hid hbe
  clear hbe
  go_wp2_with (first
    | (at_builtin; refine OUT.rows_ev (w := w7.alloc (.cells #[] 27)) (base := w.heap.size) (n0 := w7.heap.size) (OUT.empty w7 w.heap.size HW7.out.size) (fun k hk => by cases hk; exact Nat.le_refl _) (by simp) (ps := os) (c := k3) (Kd.R_below (OUT.low HX7.out) HBE.out) rfl (.tmp 65) (.tmp 66) rfl rfl rfl (Nat.le_trans HW7.out.size HBE.out.size) (by simp only [List.length_nil]; omega) ?_; intro v8 w8 h8 hb8 hg8 hv8; rw [List.nil_append] at h8; obtain ⟨A8, k8, rfl, _, _⟩ := Kd.R_reads h8; have H8 := Lib.hid h8; have HV8 := Lib.hid hv8; have HB8 := Lib.hid (HBE.out.trans hb8); clear h8 hb8 hg8 hv8)
    | (at_builtin; refine OUT.rows_ev (w := w8) (base := w.heap.size) (n0 := w7.heap.size) H8.out HV8.out HB8.out.size (ps := os2) (c := k4) (Kd.R_step (OUT.low HY7.out) (fun k hk _ => HB8.out.block k hk)) rfl (.tmp 67) (.tmp 68) rfl rfl rfl (Nat.le_trans HW7.out.size HB8.out.size) hsum ?_; intro v9 w9 h9 hb9 hg9 hv9; rw [HOS3.out] at h9; obtain ⟨A9, k9, rfl, _, hR9⟩ := Kd.R_reads h9; have hB9 := HB8.out.trans hb9; have HR9 := Lib.hid hR9; have HZ9 := Lib.hid (Kd.C_below HZ7.out hB9); have HC9 := Lib.hid (HC7.out.below hB9 (Nat.le_refl _)); have HD9 := Lib.hid (HD7.out.below hB9 (Nat.le_refl _)); have HW9 := Lib.hid (HW7.out.trans (hB9.mono HW7.out.size)); clear h9 hb9 hg9 hv9 hR9 hB9)
    | (go_at_call 43; refine (same_yes _ A9 A7 k9 k7 os3 HR9.out HZ9.out).mono ?_; rintro e w10 ⟨rfl, hb⟩; have HW10 := Lib.hid (HW9.out.trans (hb.mono HW9.out.size)); have HC10 := Lib.hid (HC9.out.below hb (Nat.le_refl _)); have HD10 := Lib.hid (HD9.out.below hb (Nat.le_refl _)); clear hb)
    | (go_at_call_of 45 (Value.pointer (some ⟨w.heap.size, 0, none⟩)); refine (waiting_is HC10.out).mono ?_; rintro e w' ⟨rfl, rfl⟩)
    | (go_at_call_of 45 (Value.pointer (some ⟨w1.heap.size, 0, none⟩)); refine (waiting_is HD10.out).mono ?_; rintro e w' ⟨rfl, rfl⟩)
    | (go_at_call_of 46 (Value.pointer (some ⟨w.heap.size, 0, none⟩)); refine (frames_is HC10.out).mono ?_; rintro e w' ⟨rfl, rfl⟩)
    | (go_at_call_of 46 (Value.pointer (some ⟨w1.heap.size, 0, none⟩)); refine (frames_is HD10.out).mono ?_; rintro e w' ⟨rfl, rfl⟩)
    | (go_at_call 44; refine (awake32_is _).mono ?_; rintro e w11 ⟨rfl, hb⟩; have HW11 := Lib.hid (HW10.out.trans (hb.mono HW10.out.size)); clear hb))
  go_ret
  exact ⟨rfl, HW11.out⟩

/-- The form that the row calls. -/
theorem one_row (A1 : Option Addr) (c1 : Nat) (a : List Int) (A2 : Option Addr) (c2 : Nat) (b : List Int) (w : World) (hr1 : (Kd.int .u8).C w A1 a.length a) (hc1 : a.length ≤ c1) (w1 : a.length * 1 ≤ 140737488351232 ∧ ∀ x ∈ a, (Lit.int .u8 x).wf = true)
    (hr2 : (Kd.int .u8).C w A2 b.length b) (hc2 : b.length ≤ c2) (w2 : b.length * 1 ≤ 140737488351232 ∧ ∀ x ∈ b, (Lit.int .u8 x).wf = true) (hU : a.length + b.length ≤ 1048576) :
    Calls Try.prog 5 #[.slice A1 a.length c1, .slice A2 b.length c2] w fun e w' => e = .returned (.bool true) ∧ Below w.heap.size w w' := by
  have hb : ∀ l : List Int, (∀ x ∈ l, (Lit.int .u8 x).wf = true) → areBytesN l = true := fun l h => by
    unfold areBytesN
    rw [List.all_eq_true]
    intro x hx
    have := h x hx
    simp [Lit.wf, IntKind.min, IntKind.max, IntKind.bits, IntKind.signed] at this
    simpa using this
  by_cases h3 : (eatAll a).2.2 = 3
  · exact one_good A1 c1 a A2 c2 b w hr1 hc1 (hb a w1.2) hr2 hc2 (hb b w2.2) hU h3
  · exact one_bad A1 c1 a A2 c2 b w hr1 hc1 (hb a w1.2) hr2 hc2 (hb b w2.2) hU h3

end Go.Proofs.Ytmbnjgnmblgjoaa.Man
