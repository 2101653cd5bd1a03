/- codec.message, codec.PutMsg of the given program: what they come to. -/
import Derived.Test.YtmbnjgnmblgjoaaPuts
namespace Go.Proofs.Ytmbnjgnmblgjoaa.Man
open Go.RowKit Go.Proofs.YtmbnjgnmblgjoaaW.PrintWords Go.Proofs.YtmbnjgnmblgjoaaW.PrintLast Go.Proofs.YtmbnjgnmblgjoaaW.PrintMore
set_option linter.unusedVariables false
set_option linter.unusedSimpArgs false
set_option maxRecDepth 100000
attribute [local go_sem] max2_int min2_int max_two min_two max_three min_three

/-- A message. -/
structure MsgL where
  k : Int
  who : Int
  ver : Int
  l : List K.S26
def firstBad : List K.S26 → Int
  | [] => 0
  | x :: l => if entryE x = 0 then firstBad l else entryE x
/-- Why a message can't be written. -/
def msgBad (m : MsgL) : Prop := m.k < 0 ∨ m.who < 0 ∨ m.ver < 0 ∨ 2 < m.k ∨ 4 ≤ m.who ∨ 1024 < m.ver
instance (m : MsgL) : Decidable (msgBad m) := by unfold msgBad; infer_instance
def msgE (m : MsgL) : Int := if msgBad m then 1 else if 1024 < m.l.length then 2 else firstBad m.l
abbrev msgV (m : MsgL) (A : Option Addr) (c : Nat) : Value := .agg #[.int .i64 m.k, .int .i64 m.who, .int .i64 m.ver, .slice A m.l.length c]
abbrev msgO (m : MsgL) (A : Option Addr) (c : Nat) : Obj := .cells #[.int .i64 m.k, .int .i64 m.who, .int .i64 m.ver, .slice A m.l.length c] 71

abbrev entO (x : K.S26) (A : Option Addr) (c : Nat) : Obj := .cells #[.int .i64 x.f0, .int .i64 x.f1, .int .i64 x.f2.f0, .int .i64 x.f2.f1, .int .i64 x.f2.f2, .int .i64 x.f2.f3, .int .i64 x.f2.f4, .int .i64 x.f2.f5, .slice A x.f2.f6.length c, .int .i64 x.f2.f7] 26

set_option maxHeartbeats 8000000 in
theorem message_is (m : MsgL) (A : Option Addr) (c : Nat) (w : World) (hr : Kd.C K.k26 w A m.l.length m.l) (hc : m.l.length ≤ c) :
    Calls Try.prog 109 #[msgV m A c] w fun e w' => e = .returned (.int .i64 (msgE m)) ∧ Below w.heap.size w w' := by
  obtain ⟨k, who, ver, l⟩ := m
  unfold msgV
  simp only at hr hc ⊢
  have HC := Lib.hid hr
  clear hr
  obtain ⟨E, hE⟩ : ∃ E, msgE ⟨k, who, ver, l⟩ = E := ⟨_, rfl⟩
  rw [hE]
  unfold msgE msgBad at hE
  simp only at hE
  have hbe : Below w.heap.size w (w.alloc (.cells #[.int .i64 k, .int .i64 who, .int .i64 ver, .slice A l.length c] 71)) := (Below.refl _ _).alloc (Nat.le_refl _) _
  have HBE := Lib.hid hbe
  clear hbe
  obtain ⟨q, hq⟩ : ∃ q, (if who < k then who else k) = q := ⟨_, rfl⟩
  obtain ⟨r, hqr⟩ : ∃ r, (if ver < q then ver else q) = r := ⟨_, rfl⟩
  have hrr : r < 0 ↔ k < 0 ∨ who < 0 ∨ ver < 0 := by rw [← hqr, ← hq]; split <;> (split <;> omega)
  by_cases hmin : k < 0 ∨ who < 0 ∨ ver < 0
  · have t0 : decide (r < 0) = true := by rw [decide_eq_true_eq]; exact hrr.2 hmin
    rw [if_pos (by omega)] at hE
    subst hE
    clear hrr hmin
    go_enter Try.func109, Try.ntmps109
    go_wp2
    refine bodyPost_ret (results_tmp rfl _ _ _) rfl ?_
    exact ⟨rfl, HBE.out⟩
  have t0 : decide (r < 0) = false := by rw [decide_eq_false_iff_not]; exact fun h => hmin (hrr.1 h)
  clear hrr
  by_cases h1 : 2 < k
  · have t1 : decide (2 < k) = true := decide_eq_true h1
    rw [if_pos (by omega)] at hE
    subst hE
    clear h1 hmin
    go_enter Try.func109, Try.ntmps109
    go_wp2
    refine bodyPost_ret (results_tmp rfl _ _ _) rfl ?_
    exact ⟨rfl, HBE.out⟩
  have t1 : decide (2 < k) = false := decide_eq_false h1
  by_cases h2 : 4 ≤ who
  · have t2 : decide (4 ≤ who) = true := decide_eq_true h2
    rw [if_pos (by omega)] at hE
    subst hE
    clear h1 h2 hmin
    go_enter Try.func109, Try.ntmps109
    go_wp2
    refine bodyPost_ret (results_tmp rfl _ _ _) rfl ?_
    exact ⟨rfl, HBE.out⟩
  have t2 : decide (4 ≤ who) = false := decide_eq_false h2
  by_cases h3 : 1024 < ver
  · have t3 : decide (1024 < ver) = true := decide_eq_true h3
    rw [if_pos (by omega)] at hE
    subst hE
    clear h1 h2 h3 hmin
    go_enter Try.func109, Try.ntmps109
    go_wp2
    refine bodyPost_ret (results_tmp rfl _ _ _) rfl ?_
    exact ⟨rfl, HBE.out⟩
  have t3 : decide (1024 < ver) = false := decide_eq_false h3
  rw [if_neg (by omega)] at hE
  clear h1 h2 h3 hmin
  by_cases h4 : 1024 < l.length
  · rw [if_pos h4] at hE
    subst hE
    go_enter Try.func109, Try.ntmps109
    go_wp2
    refine bodyPost_ret (results_tmp rfl _ _ _) rfl ?_
    exact ⟨rfl, HBE.out⟩
  rw [if_neg h4] at hE
  have HE := Lib.hid hE
  clear hE
  go_enter Try.func109, Try.ntmps109
  go_wp2
  go_loopg [32] l.length (fun g s32 wr => ∃ i : Nat, s32 = .int .i64 i ∧ i ≤ l.length ∧ g = l.length - i ∧ Hid (firstBad (l.drop i) = E) ∧ Hid (Below w.heap.size w wr))
  case atStart => exact ⟨0, rfl, Nat.zero_le _, rfl, Lib.hid (by rw [List.drop_zero]; exact HE.out), HBE⟩
  case round =>
    clear HE HBE t0 t1 t2 t3 hq hqr
    obtain ⟨i, rfl, hi, hg, HE, HB⟩ := hrel
    by_cases hlt : i < l.length
    · have hCi := Kd.C_below HC.out HB.out
      obtain ⟨ad, A8, c8, ea, a0, a1, a2, a3, a4, a5, a6, a7, a8, a9, l8, g8⟩ := K.at_T26 hCi (i : Int) (by omega) (by omega)
      subst ea
      have hrd : K.rd_T26 l (i : Int) = l[i] := by unfold K.rd_T26; rw [Int.toNat_natCast, List.getD_eq_getElem?_getD, List.getElem?_eq_getElem hlt]; rfl
      have hdr : l.drop i = l[i] :: l.drop (i + 1) := List.drop_eq_getElem_cons hlt
      have hE := HE.out
      rw [hdr, firstBad] at hE
      rw [hrd] at a0 a1 a2 a3 a4 a5 a6 a7 a8 a9 l8 g8
      rw [Int.toNat_natCast] at a0 a1 a2 a3 a4 a5 a6 a7 a8 a9
      generalize l[i] = x at hE a0 a1 a2 a3 a4 a5 a6 a7 a8 a9 l8 g8
      clear hrd hdr HE hCi
      have hbx : Below wr.heap.size wr (wr.alloc (entO x A8 c8)) := (Below.refl _ _).alloc (Nat.le_refl _) _
      have HD := Lib.hid (entry_is x A8 c8 (wr.alloc (entO x A8 c8)) (Kd.C_below g8 hbx) l8)
      have HBX := Lib.hid (HB.out.trans (hbx.mono HB.out.size))
      have HE := Lib.hid hE
      clear hbx g8 hE
      by_cases h0 : entryE x = 0
      · rw [h0] at HD
        have HN : Hid (firstBad (l.drop (i + 1)) = E) := Lib.hid (by have := HE.out; rwa [if_pos h0] at this)
        clear HE h0
        go_wp2_with (go_at_call 87; refine HD.out.mono ?_; rintro e w2 ⟨rfl, hb⟩; have HB2 := Lib.hid (HBX.out.trans (hb.mono HBX.out.size)); clear hb)
        go_roundg (l.length - (i + 1))
        case measure => omega
        case rel => exact ⟨i + 1, by go_num, by omega, rfl, HN, HB2⟩
      · have HN : Hid (entryE x = E) := Lib.hid (by have := HE.out; rwa [if_neg h0] at this)
        have hne : (entryE x != 0) = true := by simpa using h0
        rw [HN.out] at HD hne
        clear HE h0
        go_wp2_with (go_at_call 87; refine HD.out.mono ?_; rintro e w2 ⟨rfl, hb⟩; have HB2 := Lib.hid (HBX.out.trans (hb.mono HBX.out.size)); clear hb)
        go_ret
        exact ⟨rfl, HB2.out⟩
    · obtain rfl : i = l.length := by omega
      have hE := HE.out
      rw [List.drop_length] at hE
      obtain rfl : E = 0 := hE.symm
      clear hE
      go_wp2
      go_ret
      exact ⟨rfl, HB.out⟩

theorem firstBad_zero : ∀ {l : List K.S26}, firstBad l = 0 → ∀ x ∈ l, entryE x = 0
  | [], _, x, hx => by cases hx
  | y :: l, h, x, hx => by
    rw [firstBad] at h
    by_cases h0 : entryE y = 0
    · rw [if_pos h0] at h
      rcases List.mem_cons.1 hx with rfl | hx
      · exact h0
      · exact firstBad_zero h x hx
    · rw [if_neg h0] at h; exact absurd h h0
theorem msgE_zero {m : MsgL} (h : msgE m = 0) : 0 ≤ m.k ∧ m.k ≤ 2 ∧ 0 ≤ m.who ∧ m.who < 4 ∧ 0 ≤ m.ver ∧ m.ver ≤ 1024 ∧ m.l.length ≤ 1024 ∧ ∀ x ∈ m.l, entryE x = 0 := by
  unfold msgE at h
  split at h
  · cases h
  rename_i h1
  unfold msgBad at h1
  split at h
  · cases h
  rename_i h2
  refine ⟨by omega, by omega, by omega, by omega, by omega, by omega, by omega, firstBad_zero h⟩
/-- A message's bytes. -/
def msgB (m : MsgL) : List Int := vbs [m.k, m.who, m.ver, (m.l.length : Int)] ++ m.l.flatMap entryB
def putMsgF (m : MsgL) : List Int × Int := (if msgE m = 0 then msgB m else [], msgE m)
theorem getD_lt4 (a b c d : Int) (ha : 0 ≤ a ∧ a < 9223372036854775808) (hb : 0 ≤ b ∧ b < 9223372036854775808) (hc : 0 ≤ c ∧ c < 9223372036854775808) (hd : 0 ≤ d ∧ d < 9223372036854775808) :
    ∀ i, i < [a, b, c, d].length → 0 ≤ [a, b, c, d].getD i 0 ∧ [a, b, c, d].getD i 0 < 9223372036854775808 := by
  intro i hi
  match i, hi with
  | 0, _ => exact ha
  | 1, _ => exact hb
  | 2, _ => exact hc
  | 3, _ => exact hd
theorem ents_le (l : List K.S26) (h : ∀ x ∈ l, EntOk x) : (l.flatMap entryB).length ≤ 41100 * l.length := by
  induction l with
  | nil => simp
  | cons x l ih =>
    rw [List.flatMap_cons, List.length_append, List.length_cons]
    have := entryB_le x (h x List.mem_cons_self)
    have := ih fun y hy => h y (List.mem_cons_of_mem _ hy)
    omega
theorem msgB_snoc (l : List K.S26) (i : Nat) (h : i < l.length) : (l.take (i + 1)).flatMap entryB = (l.take i).flatMap entryB ++ entryB l[i] := by
  rw [List.take_succ_eq_append_getElem h, List.flatMap_append]
  simp
def MsgAt (w : World) (P : Nat) (k who ver : Int) (A : Option Addr) (n c : Nat) : Prop := w.heap[P]? = some (.cells #[.int .i64 k, .int .i64 who, .int .i64 ver, .slice A n c] 71 (0, 0))
theorem MsgAt.lt {w : World} {P n c : Nat} {k who ver : Int} {A : Option Addr} (h : MsgAt w P k who ver A n c) : P < w.heap.size := (Array.getElem?_eq_some_iff.1 h).1
theorem MsgAt.c {w : World} {P n c : Nat} {k who ver : Int} {A : Option Addr} (h : MsgAt w P k who ver A n c) : w.cell? ⟨P, 0, none⟩ = some (.int .i64 k) ∧ w.cell? ⟨P, 1, none⟩ = some (.int .i64 who) ∧ w.cell? ⟨P, 2, none⟩ = some (.int .i64 ver) ∧ w.cell? ⟨P, 3, none⟩ = some (.slice A n c) := by
  simp [World.cell?, show w.heap[P]? = _ from h]

set_option maxHeartbeats 8000000 in
theorem putMsg_is (m : MsgL) (A : Option Addr) (c : Nat) (w : World) (hr : Kd.C K.k26 w A m.l.length m.l) (hc : m.l.length ≤ c) :
    Calls Try.prog 52 #[msgV m A c] w fun e w' => ∃ v, e = .returned (.tuple #[v, .int .i64 (msgE m)]) ∧ BR w' w.heap.size v (putMsgF m).1 ∧ Below w.heap.size w w' := by
  unfold putMsgF
  simp only
  obtain ⟨w1, hw1⟩ : ∃ w1, w1 = w.alloc (msgO m A c) := ⟨_, rfl⟩
  have hb1 : Below w.heap.size w w1 := by rw [hw1]; exact (Below.refl _ _).alloc (Nat.le_refl _) _
  have hz1 : w1.heap.size = w.heap.size + 1 := by rw [hw1]; exact World.size_alloc _ _
  have hE1 : MsgAt w1 w.heap.size m.k m.who m.ver A m.l.length c := by rw [hw1]; exact World.alloc_heap_new w _
  have hD := message_is m A c w1 (Kd.C_below hr hb1) hc
  rw [hw1] at hD
  have hz := @msgE_zero m
  unfold msgB
  obtain ⟨er, her⟩ : ∃ er, msgE m = er := ⟨_, rfl⟩
  rw [her] at hD hz ⊢
  clear her
  obtain ⟨k, who, ver, l⟩ := m
  unfold msgV at hD ⊢
  simp only at hr hc hE1 hD hz ⊢
  have HD := Lib.hid hD
  have HC := Lib.hid hr
  have HB1 := Lib.hid hb1
  have HE1 := Lib.hid hE1
  have HZ := Lib.hid hz1
  have HW1 := Lib.hid hw1
  clear hr hD hb1 hz1 hE1 hw1
  by_cases h0 : er = 0
  · subst h0
    obtain ⟨b0, b1, b2, b3, b4, b5, b6, hok⟩ := hz rfl
    have HOK := Lib.hid (fun x hx => entryE_zero (hok x hx))
    clear hz hok
    rw [if_pos rfl]
    have hn4 := getD_lt4 k who ver (l.length : Int) (by omega) (by omega) (by omega) (by omega)
    have hbl4 := vbs_le _ hn4
    simp only [List.length_cons, List.length_nil] at hbl4
    obtain ⟨ys, hys⟩ : ∃ ys, vbs [k, who, ver, (l.length : Int)] = ys := ⟨_, rfl⟩
    rw [hys] at hbl4 ⊢
    have HYS := Lib.hid hys
    have HN4 := Lib.hid hn4
    clear hys hn4
    go_enter Try.func52, Try.ntmps52
    go_upto_region 4 with (go_at_call 109; refine HD.out.mono ?_; rintro e w2 ⟨rfl, hb⟩; rw [← HW1.out] at hb; have HX2 := Lib.hid hb; clear hb)
    have hbe : Below w1.heap.size w1 (w2.alloc (.cells #[.slice none 0 0] 129)) := HX2.out.alloc HX2.out.size _
    have hW : WrS (w2.alloc (.cells #[.slice none 0 0] 129)) w1.heap.size w2.heap.size [] := ⟨_, World.alloc_heap_new w2 _, Kd.R_nil _ _ _ _ _⟩
    have hE3 : MsgAt (w2.alloc (.cells #[.slice none 0 0] 129)) w.heap.size k who ver A l.length c := (hbe.block _ HE1.out.lt).trans HE1.out
    obtain ⟨c0, c1, c2, c3⟩ := hE3.c
    have HE := Lib.hid (HB1.out.trans (hbe.mono HB1.out.size))
    have hsz3 : (w2.alloc (.cells #[.slice none 0 0] 129)).heap.size = w2.heap.size + 1 := World.size_alloc _ _
    have hnum := numL hW HX2.out.size hbe.size [k, who, ver, (l.length : Int)] #[.int .i64 k, .int .i64 who, .int .i64 ver, .int .i64 l.length] rfl (by simp) HN4.out (by simp)
    rw [hsz3] at hnum
    rw [List.nil_append, HYS.out] at hnum
    have HNUM := Lib.hid hnum
    have HE3 := Lib.hid hE3
    have HW2 := Lib.hid HX2.out.size
    clear hbe hW hE3 hnum hsz3
    go_wp2_with (go_at_call 110; refine HNUM.out.mono ?_; rintro e w3 ⟨rfl, hw, hg⟩; have HX3 := Lib.hid hw; have HB3 := Lib.hid (below_of_grown HE.out hg (Nat.le_trans HB1.out.size HX2.out.size)); have hk := hg.block w.heap.size (by have := HE1.out.lt; have := HX2.out.size; simp; omega) (by intro e; have e2 := Option.some.inj e; have := HE1.out.lt; have := HX2.out.size; omega); have HE4 : Hid (MsgAt w3 w.heap.size k who ver A l.length c) := Lib.hid (hk.trans HE3.out); have d3 := HE4.out.c.2.2.2; clear hw hg hk)
    clear d3 c0 c1 c2 c3
    go_loopg [30] l.length (fun g s30 wr => ∃ i : Nat, s30 = .int .i64 i ∧ i ≤ l.length ∧ g = l.length - i ∧ Hid (WrS wr w1.heap.size w2.heap.size (ys ++ (l.take i).flatMap entryB)) ∧ Hid (Below w.heap.size w wr) ∧ Hid (MsgAt wr w.heap.size k who ver A l.length c))
    case atStart => exact ⟨0, rfl, Nat.zero_le _, rfl, Lib.hid (by simpa using HX3.out), HB3, HE4⟩
    case round =>
      clear HX3 HB3 HE4 HE3 HE HNUM HD
      obtain ⟨i, rfl, hi, hg, HX, HB, HM⟩ := hrel
      by_cases hlt : i < l.length
      · obtain ⟨ad, A8, c8, ea, a0, a1, a2, a3, a4, a5, a6, a7, a8, a9, l8, g8⟩ := K.at_T26 HC.out (i : Int) (by omega) (by omega)
        subst ea
        replace a0 := pw_cell_below HB.out a0
        replace a1 := pw_cell_below HB.out a1
        replace a2 := pw_cell_below HB.out a2
        replace a3 := pw_cell_below HB.out a3
        replace a4 := pw_cell_below HB.out a4
        replace a5 := pw_cell_below HB.out a5
        replace a6 := pw_cell_below HB.out a6
        replace a7 := pw_cell_below HB.out a7
        replace a8 := pw_cell_below HB.out a8
        replace a9 := pw_cell_below HB.out a9
        have hrd : K.rd_T26 l (i : Int) = l[i] := by unfold K.rd_T26; rw [Int.toNat_natCast, List.getD_eq_getElem?_getD, List.getElem?_eq_getElem hlt]; rfl
        have hsn := msgB_snoc l i hlt
        have hokx := HOK.out l[i] (List.getElem_mem hlt)
        have hle := ents_le (l.take i) (fun x hx => HOK.out x (List.mem_of_mem_take hx))
        have hll : (l.take i).length = i := by rw [List.length_take]; omega
        rw [hrd] at a0 a1 a2 a3 a4 a5 a6 a7 a8 a9 l8 g8
        rw [Int.toNat_natCast] at a0 a1 a2 a3 a4 a5 a6 a7 a8 a9
        generalize l[i] = x at hsn hokx a0 a1 a2 a3 a4 a5 a6 a7 a8 a9 l8 g8
        have hbx : Below wr.heap.size wr (wr.alloc (entO x A8 c8)) := (Below.refl _ _).alloc (Nat.le_refl _) _
        obtain ⟨zs, hzs⟩ : ∃ zs, ys ++ (l.take i).flatMap entryB = zs := ⟨_, rfl⟩
        rw [hzs] at HX
        have hz2 : ys ++ (l.take (i + 1)).flatMap entryB = zs ++ entryB x := by rw [hsn, ← List.append_assoc, hzs]
        have hzl : zs.length ≤ 80000000000000 := by rw [← hzs, List.length_append]; rw [hll] at hle; omega
        have hws := HX.out.lt
        have HD := Lib.hid (wentry_is (w0 := w) (HX.out.below hbx (Nat.le_refl _)) HW2.out (by have := hbx.size; have := HW2.out; omega) x A8 c8 g8 (HB.out.trans (hbx.mono HB.out.size)) HB1.out.size hokx hzl)
        have HZ2 := Lib.hid hz2
        have HBX := Lib.hid (HB.out.trans (hbx.mono HB.out.size))
        have HGX := Lib.hid (grown_of_below hbx (some w2.heap.size))
        have hml := HM.out.lt
        have HMX : Hid (MsgAt (wr.alloc (entO x A8 c8)) w.heap.size k who ver (some ad) l.length c) := Lib.hid ((hbx.block _ HM.out.lt).trans HM.out)
        clear hrd hsn hle hll hzs hz2 hokx g8 HX hzl HM hbx
        go_wp2_with (go_at_call 88; refine HD.out.mono ?_; rintro e w5 ⟨rfl, hw, hg⟩; have HX5 := Lib.hid hw; have HB5 := Lib.hid (below_of_grown HBX.out hg (Nat.le_trans HB1.out.size HW2.out)); have HM5 : Hid (MsgAt w5 w.heap.size k who ver (some ad) l.length c) := Lib.hid ((hg.block w.heap.size HMX.out.lt (by intro e; have e2 := Option.some.inj e; have := HE1.out.lt; have := HW2.out; omega)).trans HMX.out); clear hw hg)
        go_roundg (l.length - (i + 1))
        case measure => omega
        case rel => exact ⟨i + 1, by go_num, by omega, rfl, Lib.hid (by rw [HZ2.out]; exact HX5.out), HB5, HM5⟩
      · obtain rfl : i = l.length := by omega
        rw [List.take_length] at HX
        obtain ⟨v1, hk, hv⟩ := HX.out.ex
        have HR := Lib.hid (Kd.R_lower hv HB1.out.size)
        have g0 := hk.c0
        clear hk hv HX
        go_wp2
        go_ret2
        exact ⟨v1, rfl, HR.out, HB.out⟩
  · rw [if_neg h0]
    have hb : (er != 0) = true := by simpa using h0
    clear h0 hz
    go_enter Try.func52, Try.ntmps52
    go_wp2_with (go_at_call 109; refine HD.out.mono ?_; rintro e w2 ⟨rfl, hb⟩; rw [← HW1.out] at hb; have HB2 := Lib.hid (HB1.out.trans (hb.mono HB1.out.size)); clear hb)
    go_ret2
    exact ⟨_, rfl, Kd.R_nil _ _ _ _ _, HB2.out⟩
end Go.Proofs.Ytmbnjgnmblgjoaa.Man
