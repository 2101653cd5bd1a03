-- Laid together by a program of this session (wip/tools/shake.py). Not trusted: Lean checks it.
import Derived.Test.YtmbnjgnmblgjoaaWh3

-- StepDo
section
/- step.do: a step, done. -/


namespace Go.Proofs.Ytmbnjgnmblgjoaa.Man
open Go.RowKit Go.Proofs.YtmbnjgnmblgjoaaW.PrintWords Go.Proofs.YtmbnjgnmblgjoaaW.PrintLast Go.Proofs.YtmbnjgnmblgjoaaW.PrintMore
set_option linter.unusedVariables false
set_option linter.unusedSimpArgs false
set_option maxRecDepth 100000

def stpV (s : K.S24) (A : Option Addr) (c : Nat) : Value := .agg #[.int .i64 s.f0, .int .i64 s.f1, .int .i64 s.f2, .int .i64 s.f3, .int .i64 s.f4, .int .i64 s.f5, .slice A s.f6.length c, .int .i64 s.f7]
/-- A row of tokens of the call's own. -/
def Made (w w' : World) (e : Ending) (r : List K.S111) : Prop := ∃ Q, e = .returned (.slice (some ⟨Q, 0, none⟩) r.length r.length) ∧ w.heap.size ≤ Q ∧ w'.heap[Q]? = some (.cells (toksV r).toArray 111 (0, 0)) ∧ Below w.heap.size w w'
theorem tcut_to (A : Option Addr) (c : Nat) (l : List K.S111) (j : Nat) (hj : j ≤ l.length) (hc : l.length ≤ c) : ∃ (A' : Option Addr) (c' : Nat) (l' : List K.S111), l.take j = l' ∧ (∀ W : World, (Instr.slice 22 (.slice A l.length c) none (some (.int .i64 (j : Int))) none).run Try.prog W = .ok (.slice A' l'.length c') W) ∧ (∀ W, Kd.C K.k111 W A l.length l → Kd.C K.k111 W A' l'.length l') ∧ l'.length ≤ c' := by
  obtain ⟨i0, hi0, hz0, hs0, hb0⟩ := info_parts info_tok4
  have hl : (l.take j).length = j := by rw [List.length_take]; omega
  refine ⟨A, c, _, rfl, fun W => ?_, fun W h => Kd.C_take h hj, by omega⟩
  have h := cut_to (P := Try.prog) 22 111 .i64 Try.underlying22 hi0 A l.length c (j : Int) (by omega) (by omega) hc W
  rw [h, hl, Int.toNat_natCast]
theorem tcut_from (A : Option Addr) (c : Nat) (l : List K.S111) (j : Nat) (hj : j ≤ l.length) (hc : l.length ≤ c) : ∃ (A' : Option Addr) (c' : Nat) (l' : List K.S111), l.drop j = l' ∧ (∀ W : World, (Instr.slice 22 (.slice A l.length c) (some (.int .i64 (j : Int))) none none).run Try.prog W = .ok (.slice A' l'.length c') W) ∧ (∀ W, Kd.C K.k111 W A l.length l → Kd.C K.k111 W A' l'.length l') ∧ l'.length ≤ c' := by
  obtain ⟨i0, hi0, hz0, hs0, hb0⟩ := info_parts info_tok4
  have hl : (l.drop j).length = l.length - j := List.length_drop
  refine ⟨_, c - j, _, rfl, fun W => ?_, fun W h => Kd.C_drop h hj hc, by omega⟩
  have h := cut_from (P := Try.prog) 22 111 .i64 Try.underlying22 hi0 4 hs0 A l.length c (j : Int) (by omega) (by omega) W
  rw [h, hl, Int.toNat_natCast]
  rfl
theorem tcut_mid (A : Option Addr) (c : Nat) (l : List K.S111) (lo hi : Nat) (h1 : lo ≤ hi) (h2 : hi ≤ l.length) (hc : l.length ≤ c) : ∃ (A' : Option Addr) (c' : Nat) (l' : List K.S111), (l.take hi).drop lo = l' ∧ (∀ W : World, (Instr.slice 22 (.slice A l.length c) (some (.int .i64 (lo : Int))) (some (.int .i64 (hi : Int))) none).run Try.prog W = .ok (.slice A' l'.length c') W) ∧ (∀ W, Kd.C K.k111 W A l.length l → Kd.C K.k111 W A' l'.length l') ∧ l'.length ≤ c' := by
  obtain ⟨i0, hi0, hz0, hs0, hb0⟩ := info_parts info_tok4
  have hl : ((l.take hi).drop lo).length = hi - lo := by rw [List.length_drop, List.length_take]; omega
  refine ⟨_, c - lo, _, rfl, fun W => ?_, fun W h => Kd.C_mid h h1 h2 hc, by omega⟩
  have h := cut_mid (P := Try.prog) 22 111 .i64 .i64 Try.underlying22 hi0 4 hs0 A l.length c (lo : Int) (hi : Int) (by omega) (by omega) (by omega) hc W
  rw [h, hl, Int.toNat_natCast, Int.toNat_natCast]
  rfl
/-- A step's cells in a block. -/
def StpB (w : World) (P : Nat) (s : K.S24) (A : Option Addr) (c : Nat) : Prop := w.heap[P]? = some (.cells #[.int .i64 s.f0, .int .i64 s.f1, .int .i64 s.f2, .int .i64 s.f3, .int .i64 s.f4, .int .i64 s.f5, .slice A s.f6.length c, .int .i64 s.f7] 24 (0, 0))
section
variable {w w1 : World} {P : Nat} {s : K.S24} {A : Option Addr} {c : Nat}
theorem StpB.lt (h : StpB w P s A c) : P < w.heap.size := (Array.getElem?_eq_some_iff.1 h).1
theorem StpB.below (h : StpB w P s A c) (hb : Below w.heap.size w w1) : StpB w1 P s A c := (hb.block _ h.lt).trans h
theorem StpB.c0 (h : StpB w P s A c) : w.cell? ⟨P, 0, none⟩ = some (.int .i64 s.f0) := by simp [World.cell?, show w.heap[P]? = _ from h]
theorem StpB.c1 (h : StpB w P s A c) : w.cell? ⟨P, 1, none⟩ = some (.int .i64 s.f1) := by simp [World.cell?, show w.heap[P]? = _ from h]
theorem StpB.c2 (h : StpB w P s A c) : w.cell? ⟨P, 2, none⟩ = some (.int .i64 s.f2) := by simp [World.cell?, show w.heap[P]? = _ from h]
theorem StpB.c3 (h : StpB w P s A c) : w.cell? ⟨P, 3, none⟩ = some (.int .i64 s.f3) := by simp [World.cell?, show w.heap[P]? = _ from h]
theorem StpB.c4 (h : StpB w P s A c) : w.cell? ⟨P, 4, none⟩ = some (.int .i64 s.f4) := by simp [World.cell?, show w.heap[P]? = _ from h]
theorem StpB.c5 (h : StpB w P s A c) : w.cell? ⟨P, 5, none⟩ = some (.int .i64 s.f5) := by simp [World.cell?, show w.heap[P]? = _ from h]
theorem StpB.c6 (h : StpB w P s A c) : w.cell? ⟨P, 6, none⟩ = some (.slice A s.f6.length c) := by simp [World.cell?, show w.heap[P]? = _ from h]
theorem StpB.c7 (h : StpB w P s A c) : w.cell? ⟨P, 7, none⟩ = some (.int .i64 s.f7) := by simp [World.cell?, show w.heap[P]? = _ from h]
end
def doR3.T : Bool × List (List Nat × List Nat) := (true, [([], []), ([], []), ([1], [1]), ([0, 2], [0, 2]), ([], []), ([4], [4]), ([], []), ([], []), ([7], [7]), ([6, 8], [6, 8]), ([3, 5, 9], [3, 5, 9]), ([10], [10]), ([11, 11, 0, 1, 2, 3, 4, 5, 6, 7, 8, 9, 10, 11], [11])])
def doR3.B : List Nat := [0, 0, 2, 7, 0, 16, 0, 0, 128, 448, 1023, 2047, 4095]
theorem doR3.tab : rtab .any (opsOf Try.f98 3) = doR3.T := by kernel_rfl
theorem doR3.bits : waitsOk doR3.T.2 doR3.B = true := by kernel_rfl

set_option maxHeartbeats 16000000 in
theorem do0_is (A : Option Addr) (c : Nat) (l : List K.S111) (B : Option Addr) (d : Nat) (F T : Nat) (g1 g2 ins mk : Int) (sl : List K.S111) (w : World) (hr : Kd.C K.k111 w A l.length l) (hc : l.length ≤ c) (hr' : Kd.C K.k111 w B sl.length sl) (hc' : sl.length ≤ d)
    (hF : F ≤ l.length) (hT : T ≤ l.length) (hl : l.length ≤ 2048) (hsl : sl.length ≤ 2048) :
    Calls Try.prog 98 #[.slice A l.length c, stpV ⟨0, F, T, g1, g2, ins, sl, mk⟩ B d] w fun e w' => Made w w' e (l.take F ++ (sl ++ l.drop T)) := by
  obtain ⟨A1, c1, l1, hl1, hcut1, hC1, hc1⟩ := tcut_to A c l F hF hc
  obtain ⟨A2, c2, l2, hl2, hcut2, hC2, hc2⟩ := tcut_from A c l T hT hc
  have hle1 : l1.length ≤ 2048 := by rw [← hl1, List.length_take]; omega
  have hle2 : l2.length ≤ 2048 := by rw [← hl2, List.length_drop]; omega
  rw [hl1, hl2]
  have H1 := Lib.hid (hC1 w hr)
  have H2 := Lib.hid (hC2 w hr)
  have HS := Lib.hid hr'
  clear hl1 hl2 hr hr' hC1 hC2
  unfold stpV
  go_enter Try.func98, Try.ntmps98
  go_upto_region 3 with (fail)
  obtain ⟨wB, hwB⟩ : ∃ wB, w.alloc (.cells #[.int .i64 0, .int .i64 F, .int .i64 T, .int .i64 g1, .int .i64 g2, .int .i64 ins, .slice B sl.length d, .int .i64 mk] 24) = wB := ⟨_, rfl⟩
  have hsb : StpB wB w.heap.size ⟨0, F, T, g1, g2, ins, sl, mk⟩ B d := by rw [← hwB]; exact World.alloc_heap_new w _
  have hbb : Below w.heap.size w wB := by rw [← hwB]; exact (Below.refl _ _).alloc (Nat.le_refl _) _
  rw [hwB]
  have hbd : Below wB.heap.size wB wB.drew := below_drew1 (Below.refl _ _)
  have hsz : w.heap.size ≤ wB.heap.size := hbb.size
  have HD := Lib.hid (hsb.below hbd)
  have HB := Lib.hid (hbb.trans (hbd.mono hsz))
  clear hwB hsb hbb hbd hsz
  obtain ⟨p1, hp1⟩ : ∃ p1 : Nat, w.heap.size = p1 := ⟨_, rfl⟩
  have HP1 := Lib.hid hp1
  rw [hp1] at HD ⊢
  clear hp1
  refine start_ (n := 13) (S := fun w' => w'.cell? ⟨p1, 1, none⟩ = some (.int .i64 F) ∧ w'.cell? ⟨p1, 2, none⟩ = some (.int .i64 T) ∧ w'.cell? ⟨p1, 6, none⟩ = some (.slice B sl.length d)) (ds := []) #[false, false, false, false, false, false, false, false, false, false, false, false, false] (by kernel_rfl) rfl rfl ⟨HD.out.c1, HD.out.c2, HD.out.c6⟩ (fun hHeld => ?_); refine with_tabW doR3.tab doR3.bits (fun HT_ HW_ => ?_)
  obtain ⟨WD, hWD⟩ : ∃ X, wB.drew = X := ⟨_, rfl⟩
  rw [hWD] at hHeld HD HB ⊢
  clear hWD
  have hpc : pcL [(A1, c1, l1), (B, d, sl), (A2, c2, l2)] = l1 ++ (sl ++ l2) := by simp [pcL]
  have hall : ∀ p ∈ [(A1, c1, l1), (B, d, sl), (A2, c2, l2)], Kd.C K.k111 (WD.alloc (.cells #[.slice A1 l1.length c1, .slice B sl.length d, .slice A2 l2.length c2] 22)) p.1 p.2.2.length p.2.2 := by
    have hb : Below w.heap.size w (WD.alloc (.cells #[.slice A1 l1.length c1, .slice B sl.length d, .slice A2 l2.length c2] 22)) := HB.out.alloc HB.out.size _
    intro p hp
    simp only [List.mem_cons, List.not_mem_nil, or_false] at hp
    rcases hp with rfl | rfl | rfl
    · exact Kd.C_below H1.out hb
    · exact Kd.C_below HS.out hb
    · exact Kd.C_below H2.out hb
  have htk : Calls Try.prog 146 #[.slice (some ⟨WD.heap.size, 0, none⟩) 3 3] (WD.alloc (.cells #[.slice A1 l1.length c1, .slice B sl.length d, .slice A2 l2.length c2] 22)) fun e w' => e = .returned (.slice (some ⟨WD.heap.size + 1, 0, none⟩) (l1 ++ (sl ++ l2)).length (l1 ++ (sl ++ l2)).length) ∧ w'.heap[WD.heap.size + 1]? = some (.cells (toksV (l1 ++ (sl ++ l2))).toArray 111 (0, 0)) ∧ Below (WD.heap.size + 1) (WD.alloc (.cells #[.slice A1 l1.length c1, .slice B sl.length d, .slice A2 l2.length c2] 22)) w' := by
    have h := tokens_is WD.heap.size [(A1, c1, l1), (B, d, sl), (A2, c2, l2)] (WD.alloc (.cells #[.slice A1 l1.length c1, .slice B sl.length d, .slice A2 l2.length c2] 22)) (World.alloc_heap_new WD _) hall (by simp) (by rw [hpc]; simp only [List.length_append]; omega)
    rw [hpc, World.size_alloc] at h
    exact h
  obtain ⟨r, hr⟩ : ∃ r, l1 ++ (sl ++ l2) = r := ⟨_, rfl⟩
  rw [hr] at htk
  have HRES := Lib.hid hr
  have HTK := Lib.hid htk
  clear htk hall hpc hr
  refine pure_ (i := 0) (N := (some 12)) (v := ?_) (a' := ?_) #[true, false, false, false, false, false, false, false, false, false, false, false, false] rfl rfl (any_of HT_.out (by kernel_rfl)) (fun _ _ _ h => h) (Or.inl ⟨by rfl, ?_⟩) ?_ ?_
  rotate_left
  · intro w'
    go_simp
    with_reducible rfl
  rotate_left
  · simp only [Act.put, List.setIfInBounds_toArray, List.set_cons_zero, List.set_cons_succ, i64_w, i32_w]
    rfl
  refine pure_ (i := 1) (N := (some 13)) (v := ?_) (a' := ?_) #[true, true, false, false, false, false, false, false, false, false, false, false, false] rfl rfl (any_of HT_.out (by kernel_rfl)) (fun _ _ _ h => h) (Or.inl ⟨by rfl, ?_⟩) ?_ ?_
  rotate_left
  · intro w'
    go_simp
    with_reducible rfl
  rotate_left
  · simp only [Act.put, List.setIfInBounds_toArray, List.set_cons_zero, List.set_cons_succ, i64_w, i32_w]
    rfl
  refine pure_ (i := 4) (N := (some 16)) (v := ?_) (a' := ?_) #[true, true, false, false, true, false, false, false, false, false, false, false, false] rfl rfl (any_of HT_.out (by kernel_rfl)) (fun _ _ _ h => h) (Or.inl ⟨by rfl, ?_⟩) ?_ ?_
  rotate_left
  · intro w'
    go_simp
    with_reducible rfl
  rotate_left
  · simp only [Act.put, List.setIfInBounds_toArray, List.set_cons_zero, List.set_cons_succ, i64_w, i32_w]
    rfl
  refine pure_ (i := 6) (N := (some 18)) (v := ?_) (a' := ?_) #[true, true, false, false, true, false, true, false, false, false, false, false, false] rfl rfl (any_of HT_.out (by kernel_rfl)) (fun _ _ _ h => h) (Or.inl ⟨by rfl, ?_⟩) ?_ ?_
  rotate_left
  · intro w'
    go_simp
    with_reducible rfl
  rotate_left
  · simp only [Act.put, List.setIfInBounds_toArray, List.set_cons_zero, List.set_cons_succ, i64_w, i32_w]
    rfl
  refine pure_ (i := 7) (N := (some 19)) (v := ?_) (a' := ?_) #[true, true, false, false, true, false, true, true, false, false, false, false, false] rfl rfl (any_of HT_.out (by kernel_rfl)) (fun _ _ _ h => h) (Or.inl ⟨by rfl, ?_⟩) ?_ ?_
  rotate_left
  · intro w'
    go_simp
    with_reducible rfl
  rotate_left
  · simp only [Act.put, List.setIfInBounds_toArray, List.set_cons_zero, List.set_cons_succ, i64_w, i32_w]
    rfl
  refine take_ (i := 2) (N := (some 14)) (v := ?_) (a' := ?_) #[true, true, true, false, true, false, true, true, false, false, false, false, false] rfl rfl (take_ofW HT_.out HW_.out (by kernel_rfl)) (fun _ _ _ h => h) (Or.inl ⟨by rfl, ?_⟩) hHeld ?_ ?_
  rotate_left
  · rintro w' ⟨s1, s2, s6⟩
    go_simp
    with_reducible rfl
  rotate_left
  · simp only [Act.put, List.setIfInBounds_toArray, List.set_cons_zero, List.set_cons_succ, i64_w, i32_w]
    rfl
  refine pure_ (i := 3) (N := (some 15)) (v := ?_) (a' := ?_) #[true, true, true, true, true, false, true, true, false, false, false, false, false] rfl rfl (any_of HT_.out (by kernel_rfl)) (fun _ _ _ h => h) (Or.inl ⟨by rfl, ?_⟩) ?_ ?_
  rotate_left
  · intro w'
    go_simp
    with_reducible rfl
  rotate_left
  · simp only [Act.put, List.setIfInBounds_toArray, List.set_cons_zero, List.set_cons_succ, i64_w, i32_w]
    rfl
  refine take_ (i := 5) (N := (some 17)) (v := ?_) (a' := ?_) #[true, true, true, true, true, true, true, true, false, false, false, false, false] rfl rfl (take_ofW HT_.out HW_.out (by kernel_rfl)) (fun _ _ _ h => h) (Or.inl ⟨by rfl, ?_⟩) hHeld ?_ ?_
  rotate_left
  · rintro w' ⟨s1, s2, s6⟩
    go_simp
    with_reducible rfl
  rotate_left
  · simp only [Act.put, List.setIfInBounds_toArray, List.set_cons_zero, List.set_cons_succ, i64_w, i32_w]
    rfl
  refine take_ (i := 8) (N := (some 20)) (v := ?_) (a' := ?_) #[true, true, true, true, true, true, true, true, true, false, false, false, false] rfl rfl (take_ofW HT_.out HW_.out (by kernel_rfl)) (fun _ _ _ h => h) (Or.inl ⟨by rfl, ?_⟩) hHeld ?_ ?_
  rotate_left
  · rintro w' ⟨s1, s2, s6⟩
    go_simp
    with_reducible rfl
  rotate_left
  · simp only [Act.put, List.setIfInBounds_toArray, List.set_cons_zero, List.set_cons_succ, i64_w, i32_w]
    rfl
  refine pure_ (i := 9) (N := (some 21)) (v := ?_) (a' := ?_) #[true, true, true, true, true, true, true, true, true, true, false, false, false] rfl rfl (any_of HT_.out (by kernel_rfl)) (fun _ _ _ h => h) (Or.inl ⟨by rfl, ?_⟩) ?_ ?_
  rotate_left
  · intro w'
    go_simp
    with_reducible rfl
  rotate_left
  · simp only [Act.put, List.setIfInBounds_toArray, List.set_cons_zero, List.set_cons_succ, i64_w, i32_w]
    rfl
  refine one_ (i := 10) (N := (some 22)) #[true, true, true, true, true, true, true, true, true, true, true, false, false] rfl rfl (one_of HT_.out (by kernel_rfl)) (by decide) (fun K hK => ?_)
  refine value_ (w1 := (WD.alloc (.cells #[.slice A1 l1.length c1, .slice B sl.length d, .slice A2 l2.length c2] 22))) (v := .slice (some ⟨WD.heap.size, 0, none⟩) 3 3) (by rfl) rfl ?_ ?_
  · go_simp
    try rfl
  refine hK.out _ _ ⟨(HD.out.below ((Below.refl WD.heap.size WD).alloc (Nat.le_refl _) _)).c1, (HD.out.below ((Below.refl WD.heap.size WD).alloc (Nat.le_refl _) _)).c2, (HD.out.below ((Below.refl WD.heap.size WD).alloc (Nat.le_refl _) _)).c6⟩ (fun hHeld => ?_)
  clear hK K
  refine norm_ (a' := ?_) ?_ ?_
  rotate_left
  · show Act.put _ (some 22) _ = _
    simp only [Act.put, List.setIfInBounds_toArray, List.set_cons_zero, List.set_cons_succ, i64_w, i32_w]
    rfl
  refine one_ (i := 11) (N := (some 23)) #[true, true, true, true, true, true, true, true, true, true, true, true, false] rfl rfl (one_of HT_.out (by kernel_rfl)) (by decide) (fun K hK => ?_)
  refine goes_ Try.func146 (by kernel_rfl) rfl #[.slice (some ⟨WD.heap.size, 0, none⟩) 3 3] (by rfl) rfl rfl (by (try simp only [List.map_toArray, List.map_cons, List.map_nil]); first | done | rfl) ?_
  refine HTK.out.mono ?_
  rintro e w3 ⟨rfl, hrow, hb⟩
  have HR3 := Lib.hid hrow
  have HB3 := Lib.hid hb
  clear hrow hb
  refine ⟨_, rfl, ?_⟩
  refine hK.out _ _ ⟨((HD.out.below ((Below.refl WD.heap.size WD).alloc (Nat.le_refl _) _)).below (HB3.out.mono (by rw [World.size_alloc]; exact Nat.le_refl _))).c1, ((HD.out.below ((Below.refl WD.heap.size WD).alloc (Nat.le_refl _) _)).below (HB3.out.mono (by rw [World.size_alloc]; exact Nat.le_refl _))).c2, ((HD.out.below ((Below.refl WD.heap.size WD).alloc (Nat.le_refl _) _)).below (HB3.out.mono (by rw [World.size_alloc]; exact Nat.le_refl _))).c6⟩ (fun hHeld => ?_)
  clear hK K
  refine norm_ (a' := ?_) ?_ ?_
  rotate_left
  · show Act.put _ (some 23) _ = _
    simp only [Act.put, List.setIfInBounds_toArray, List.set_cons_zero, List.set_cons_succ, i64_w, i32_w]
    rfl
  refine pure_ (i := 12) (N := (some 4)) (v := ?_) (a' := ?_) #[true, true, true, true, true, true, true, true, true, true, true, true, true] rfl rfl (any_of HT_.out (by kernel_rfl)) (fun _ _ _ h => h) (Or.inl ⟨by rfl, ?_⟩) ?_ ?_
  rotate_left
  · intro w'
    go_simp
    with_reducible rfl
  rotate_left
  · simp only [Act.put, List.setIfInBounds_toArray, List.set_cons_zero, List.set_cons_succ, i64_w, i32_w]
    rfl
  refine done_ (done_of HT_.out (by kernel_rfl)) ?_
  go_wp2
  go_ret
  rw [HRES.out]
  have hbz : Below w.heap.size w (WD.alloc (.cells #[.slice A1 l1.length c1, .slice B sl.length d, .slice A2 l2.length c2] 22)) := HB.out.alloc HB.out.size _
  have hz := hbz.size
  rw [World.size_alloc] at hz
  exact ⟨_, rfl, hz, HR3.out, hbz.trans (HB3.out.mono hz)⟩
def doR5.T : Bool × List (List Nat × List Nat) := (true, [([], []), ([], []), ([1], [1]), ([0, 2], [0, 2]), ([], []), ([4], [4]), ([], []), ([6], [6]), ([5, 7], [5, 7]), ([], []), ([], []), ([10], [10]), ([], []), ([12], [12]), ([9, 11, 13], [9, 11, 13]), ([], []), ([15], [15]), ([], []), ([17], [17]), ([16, 18], [16, 18]), ([], []), ([], []), ([21], [21]), ([20, 22], [20, 22]), ([3, 8, 14, 19, 23], [3, 8, 14, 19, 23]), ([24], [24]), ([25, 25, 0, 1, 2, 3, 4, 5, 6, 7, 8, 9, 10, 11, 12, 13, 14, 15, 16, 17, 18, 19, 20, 21, 22, 23, 24, 25], [25])])
def doR5.B : List Nat := [0, 0, 2, 7, 0, 16, 0, 64, 240, 0, 0, 1024, 0, 4096, 15872, 0, 32768, 0, 131072, 491520, 0, 0, 2097152, 7340032, 16777215, 33554431, 67108863]
theorem doR5.tab : rtab .any (opsOf Try.f98 5) = doR5.T := by kernel_rfl
theorem doR5.bits : waitsOk doR5.T.2 doR5.B = true := by kernel_rfl

set_option maxHeartbeats 16000000 in
theorem do1_is (A : Option Addr) (c : Nat) (l : List K.S111) (B : Option Addr) (d : Nat) (F T G H I : Nat) (mk : Int) (sl : List K.S111) (w : World) (hr : Kd.C K.k111 w A l.length l) (hc : l.length ≤ c) (hr' : Kd.C K.k111 w B sl.length sl) (hc' : sl.length ≤ d)
    (hF : F ≤ l.length) (hT : T ≤ l.length) (hG : G ≤ H) (hH : H ≤ l.length) (hI : I ≤ sl.length) (hl : l.length ≤ 2048) (hsl : sl.length ≤ 2048) :
    Calls Try.prog 98 #[.slice A l.length c, stpV ⟨1, F, T, G, H, I, sl, mk⟩ B d] w fun e w' => Made w w' e (l.take F ++ (sl.take I ++ ((l.take H).drop G ++ (sl.drop I ++ l.drop T)))) := by
  obtain ⟨A1, c1, l1, hl1, hcut1, hC1, hc1⟩ := tcut_to A c l F hF hc
  obtain ⟨A2, c2, l2, hl2, hcut2, hC2, hc2⟩ := tcut_from A c l T hT hc
  obtain ⟨A3, c3, l3, hl3, hcut3, hC3, hc3⟩ := tcut_to B d sl I hI hc'
  obtain ⟨A4, c4, l4, hl4, hcut4, hC4, hc4⟩ := tcut_from B d sl I hI hc'
  obtain ⟨A5, c5, l5, hl5, hcut5, hC5, hc5⟩ := tcut_mid A c l G H hG hH hc
  have hle3 : l3.length ≤ 2048 := by rw [← hl3, List.length_take]; omega
  have hle4 : l4.length ≤ 2048 := by rw [← hl4, List.length_drop]; omega
  have hle5 : l5.length ≤ 2048 := by rw [← hl5, List.length_drop, List.length_take]; omega
  have hle1 : l1.length ≤ 2048 := by rw [← hl1, List.length_take]; omega
  have hle2 : l2.length ≤ 2048 := by rw [← hl2, List.length_drop]; omega
  rw [hl1, hl2, hl3, hl4, hl5]
  have H1 := Lib.hid (hC1 w hr)
  have H2 := Lib.hid (hC2 w hr)
  have H3 := Lib.hid (hC3 w hr')
  have H4 := Lib.hid (hC4 w hr')
  have H5 := Lib.hid (hC5 w hr)
  have HS := Lib.hid hr'
  clear hl1 hl2 hl3 hl4 hl5 hr hr' hC1 hC2 hC3 hC4 hC5
  unfold stpV
  go_enter Try.func98, Try.ntmps98
  go_upto_region 5 with (fail)
  obtain ⟨wB, hwB⟩ : ∃ wB, w.alloc (.cells #[.int .i64 1, .int .i64 F, .int .i64 T, .int .i64 G, .int .i64 H, .int .i64 I, .slice B sl.length d, .int .i64 mk] 24) = wB := ⟨_, rfl⟩
  have hsb : StpB wB w.heap.size ⟨1, F, T, G, H, I, sl, mk⟩ B d := by rw [← hwB]; exact World.alloc_heap_new w _
  have hbb : Below w.heap.size w wB := by rw [← hwB]; exact (Below.refl _ _).alloc (Nat.le_refl _) _
  rw [hwB]
  have hbd : Below wB.heap.size wB wB.drew := below_drew1 (Below.refl _ _)
  have hsz : w.heap.size ≤ wB.heap.size := hbb.size
  have HD := Lib.hid (hsb.below hbd)
  have HB := Lib.hid (hbb.trans (hbd.mono hsz))
  clear hwB hsb hbb hbd hsz
  obtain ⟨p1, hp1⟩ : ∃ p1 : Nat, w.heap.size = p1 := ⟨_, rfl⟩
  have HP1 := Lib.hid hp1
  rw [hp1] at HD ⊢
  clear hp1
  refine start_ (n := 27) (S := fun w' => w'.cell? ⟨p1, 1, none⟩ = some (.int .i64 F) ∧ w'.cell? ⟨p1, 2, none⟩ = some (.int .i64 T) ∧ w'.cell? ⟨p1, 3, none⟩ = some (.int .i64 G) ∧ w'.cell? ⟨p1, 4, none⟩ = some (.int .i64 H) ∧ w'.cell? ⟨p1, 5, none⟩ = some (.int .i64 I) ∧ w'.cell? ⟨p1, 6, none⟩ = some (.slice B sl.length d)) (ds := []) #[false, false, false, false, false, false, false, false, false, false, false, false, false, false, false, false, false, false, false, false, false, false, false, false, false, false, false] (by kernel_rfl) rfl rfl ⟨HD.out.c1, HD.out.c2, HD.out.c3, HD.out.c4, HD.out.c5, HD.out.c6⟩ (fun hHeld => ?_); refine with_tabW doR5.tab doR5.bits (fun HT_ HW_ => ?_)
  obtain ⟨WD, hWD⟩ : ∃ X, wB.drew = X := ⟨_, rfl⟩
  rw [hWD] at hHeld HD HB ⊢
  clear hWD
  have hpc : pcL [(A1, c1, l1), (A3, c3, l3), (A5, c5, l5), (A4, c4, l4), (A2, c2, l2)] = l1 ++ (l3 ++ (l5 ++ (l4 ++ l2))) := by simp [pcL]
  have hall : ∀ p ∈ [(A1, c1, l1), (A3, c3, l3), (A5, c5, l5), (A4, c4, l4), (A2, c2, l2)], Kd.C K.k111 (WD.alloc (.cells #[.slice A1 l1.length c1, .slice A3 l3.length c3, .slice A5 l5.length c5, .slice A4 l4.length c4, .slice A2 l2.length c2] 22)) p.1 p.2.2.length p.2.2 := by
    have hb : Below w.heap.size w (WD.alloc (.cells #[.slice A1 l1.length c1, .slice A3 l3.length c3, .slice A5 l5.length c5, .slice A4 l4.length c4, .slice A2 l2.length c2] 22)) := HB.out.alloc HB.out.size _
    intro p hp
    simp only [List.mem_cons, List.not_mem_nil, or_false] at hp
    rcases hp with rfl | rfl | rfl | rfl | rfl
    · exact Kd.C_below H1.out hb
    · exact Kd.C_below H3.out hb
    · exact Kd.C_below H5.out hb
    · exact Kd.C_below H4.out hb
    · exact Kd.C_below H2.out hb
  have htk : Calls Try.prog 146 #[.slice (some ⟨WD.heap.size, 0, none⟩) 5 5] (WD.alloc (.cells #[.slice A1 l1.length c1, .slice A3 l3.length c3, .slice A5 l5.length c5, .slice A4 l4.length c4, .slice A2 l2.length c2] 22)) fun e w' => e = .returned (.slice (some ⟨WD.heap.size + 1, 0, none⟩) (l1 ++ (l3 ++ (l5 ++ (l4 ++ l2)))).length (l1 ++ (l3 ++ (l5 ++ (l4 ++ l2)))).length) ∧ w'.heap[WD.heap.size + 1]? = some (.cells (toksV (l1 ++ (l3 ++ (l5 ++ (l4 ++ l2))))).toArray 111 (0, 0)) ∧ Below (WD.heap.size + 1) (WD.alloc (.cells #[.slice A1 l1.length c1, .slice A3 l3.length c3, .slice A5 l5.length c5, .slice A4 l4.length c4, .slice A2 l2.length c2] 22)) w' := by
    have h := tokens_is WD.heap.size [(A1, c1, l1), (A3, c3, l3), (A5, c5, l5), (A4, c4, l4), (A2, c2, l2)] (WD.alloc (.cells #[.slice A1 l1.length c1, .slice A3 l3.length c3, .slice A5 l5.length c5, .slice A4 l4.length c4, .slice A2 l2.length c2] 22)) (World.alloc_heap_new WD _) hall (by simp) (by rw [hpc]; simp only [List.length_append]; omega)
    rw [hpc, World.size_alloc] at h
    exact h
  obtain ⟨r, hr⟩ : ∃ r, l1 ++ (l3 ++ (l5 ++ (l4 ++ l2))) = r := ⟨_, rfl⟩
  rw [hr] at htk
  have HRES := Lib.hid hr
  have HTK := Lib.hid htk
  clear htk hall hpc hr
  refine pure_ (i := 0) (N := (some 26)) (v := ?_) (a' := ?_) #[true, false, false, false, false, false, false, false, false, false, false, false, false, false, false, false, false, false, false, false, false, false, false, false, false, false, false] rfl rfl (any_of HT_.out (by kernel_rfl)) (fun _ _ _ h => h) (Or.inl ⟨by rfl, ?_⟩) ?_ ?_
  rotate_left
  · intro w'
    go_simp
    with_reducible rfl
  rotate_left
  · simp only [Act.put, List.setIfInBounds_toArray, List.set_cons_zero, List.set_cons_succ, i64_w, i32_w]
    rfl
  refine pure_ (i := 1) (N := (some 27)) (v := ?_) (a' := ?_) #[true, true, false, false, false, false, false, false, false, false, false, false, false, false, false, false, false, false, false, false, false, false, false, false, false, false, false] rfl rfl (any_of HT_.out (by kernel_rfl)) (fun _ _ _ h => h) (Or.inl ⟨by rfl, ?_⟩) ?_ ?_
  rotate_left
  · intro w'
    go_simp
    with_reducible rfl
  rotate_left
  · simp only [Act.put, List.setIfInBounds_toArray, List.set_cons_zero, List.set_cons_succ, i64_w, i32_w]
    rfl
  refine pure_ (i := 4) (N := (some 30)) (v := ?_) (a' := ?_) #[true, true, false, false, true, false, false, false, false, false, false, false, false, false, false, false, false, false, false, false, false, false, false, false, false, false, false] rfl rfl (any_of HT_.out (by kernel_rfl)) (fun _ _ _ h => h) (Or.inl ⟨by rfl, ?_⟩) ?_ ?_
  rotate_left
  · intro w'
    go_simp
    with_reducible rfl
  rotate_left
  · simp only [Act.put, List.setIfInBounds_toArray, List.set_cons_zero, List.set_cons_succ, i64_w, i32_w]
    rfl
  refine pure_ (i := 6) (N := (some 32)) (v := ?_) (a' := ?_) #[true, true, false, false, true, false, true, false, false, false, false, false, false, false, false, false, false, false, false, false, false, false, false, false, false, false, false] rfl rfl (any_of HT_.out (by kernel_rfl)) (fun _ _ _ h => h) (Or.inl ⟨by rfl, ?_⟩) ?_ ?_
  rotate_left
  · intro w'
    go_simp
    with_reducible rfl
  rotate_left
  · simp only [Act.put, List.setIfInBounds_toArray, List.set_cons_zero, List.set_cons_succ, i64_w, i32_w]
    rfl
  refine pure_ (i := 9) (N := (some 35)) (v := ?_) (a' := ?_) #[true, true, false, false, true, false, true, false, false, true, false, false, false, false, false, false, false, false, false, false, false, false, false, false, false, false, false] rfl rfl (any_of HT_.out (by kernel_rfl)) (fun _ _ _ h => h) (Or.inl ⟨by rfl, ?_⟩) ?_ ?_
  rotate_left
  · intro w'
    go_simp
    with_reducible rfl
  rotate_left
  · simp only [Act.put, List.setIfInBounds_toArray, List.set_cons_zero, List.set_cons_succ, i64_w, i32_w]
    rfl
  refine pure_ (i := 10) (N := (some 36)) (v := ?_) (a' := ?_) #[true, true, false, false, true, false, true, false, false, true, true, false, false, false, false, false, false, false, false, false, false, false, false, false, false, false, false] rfl rfl (any_of HT_.out (by kernel_rfl)) (fun _ _ _ h => h) (Or.inl ⟨by rfl, ?_⟩) ?_ ?_
  rotate_left
  · intro w'
    go_simp
    with_reducible rfl
  rotate_left
  · simp only [Act.put, List.setIfInBounds_toArray, List.set_cons_zero, List.set_cons_succ, i64_w, i32_w]
    rfl
  refine pure_ (i := 12) (N := (some 38)) (v := ?_) (a' := ?_) #[true, true, false, false, true, false, true, false, false, true, true, false, true, false, false, false, false, false, false, false, false, false, false, false, false, false, false] rfl rfl (any_of HT_.out (by kernel_rfl)) (fun _ _ _ h => h) (Or.inl ⟨by rfl, ?_⟩) ?_ ?_
  rotate_left
  · intro w'
    go_simp
    with_reducible rfl
  rotate_left
  · simp only [Act.put, List.setIfInBounds_toArray, List.set_cons_zero, List.set_cons_succ, i64_w, i32_w]
    rfl
  refine pure_ (i := 15) (N := (some 41)) (v := ?_) (a' := ?_) #[true, true, false, false, true, false, true, false, false, true, true, false, true, false, false, true, false, false, false, false, false, false, false, false, false, false, false] rfl rfl (any_of HT_.out (by kernel_rfl)) (fun _ _ _ h => h) (Or.inl ⟨by rfl, ?_⟩) ?_ ?_
  rotate_left
  · intro w'
    go_simp
    with_reducible rfl
  rotate_left
  · simp only [Act.put, List.setIfInBounds_toArray, List.set_cons_zero, List.set_cons_succ, i64_w, i32_w]
    rfl
  refine pure_ (i := 17) (N := (some 43)) (v := ?_) (a' := ?_) #[true, true, false, false, true, false, true, false, false, true, true, false, true, false, false, true, false, true, false, false, false, false, false, false, false, false, false] rfl rfl (any_of HT_.out (by kernel_rfl)) (fun _ _ _ h => h) (Or.inl ⟨by rfl, ?_⟩) ?_ ?_
  rotate_left
  · intro w'
    go_simp
    with_reducible rfl
  rotate_left
  · simp only [Act.put, List.setIfInBounds_toArray, List.set_cons_zero, List.set_cons_succ, i64_w, i32_w]
    rfl
  refine pure_ (i := 20) (N := (some 46)) (v := ?_) (a' := ?_) #[true, true, false, false, true, false, true, false, false, true, true, false, true, false, false, true, false, true, false, false, true, false, false, false, false, false, false] rfl rfl (any_of HT_.out (by kernel_rfl)) (fun _ _ _ h => h) (Or.inl ⟨by rfl, ?_⟩) ?_ ?_
  rotate_left
  · intro w'
    go_simp
    with_reducible rfl
  rotate_left
  · simp only [Act.put, List.setIfInBounds_toArray, List.set_cons_zero, List.set_cons_succ, i64_w, i32_w]
    rfl
  refine pure_ (i := 21) (N := (some 47)) (v := ?_) (a' := ?_) #[true, true, false, false, true, false, true, false, false, true, true, false, true, false, false, true, false, true, false, false, true, true, false, false, false, false, false] rfl rfl (any_of HT_.out (by kernel_rfl)) (fun _ _ _ h => h) (Or.inl ⟨by rfl, ?_⟩) ?_ ?_
  rotate_left
  · intro w'
    go_simp
    with_reducible rfl
  rotate_left
  · simp only [Act.put, List.setIfInBounds_toArray, List.set_cons_zero, List.set_cons_succ, i64_w, i32_w]
    rfl
  refine take_ (i := 2) (N := (some 28)) (v := ?_) (a' := ?_) #[true, true, true, false, true, false, true, false, false, true, true, false, true, false, false, true, false, true, false, false, true, true, false, false, false, false, false] rfl rfl (take_ofW HT_.out HW_.out (by kernel_rfl)) (fun _ _ _ h => h) (Or.inl ⟨by rfl, ?_⟩) hHeld ?_ ?_
  rotate_left
  · rintro w' ⟨s1, s2, s3, s4, s5, s6⟩
    go_simp
    with_reducible rfl
  rotate_left
  · simp only [Act.put, List.setIfInBounds_toArray, List.set_cons_zero, List.set_cons_succ, i64_w, i32_w]
    rfl
  refine pure_ (i := 3) (N := (some 29)) (v := ?_) (a' := ?_) #[true, true, true, true, true, false, true, false, false, true, true, false, true, false, false, true, false, true, false, false, true, true, false, false, false, false, false] rfl rfl (any_of HT_.out (by kernel_rfl)) (fun _ _ _ h => h) (Or.inl ⟨by rfl, ?_⟩) ?_ ?_
  rotate_left
  · intro w'
    go_simp
    with_reducible rfl
  rotate_left
  · simp only [Act.put, List.setIfInBounds_toArray, List.set_cons_zero, List.set_cons_succ, i64_w, i32_w]
    rfl
  refine take_ (i := 5) (N := (some 31)) (v := ?_) (a' := ?_) #[true, true, true, true, true, true, true, false, false, true, true, false, true, false, false, true, false, true, false, false, true, true, false, false, false, false, false] rfl rfl (take_ofW HT_.out HW_.out (by kernel_rfl)) (fun _ _ _ h => h) (Or.inl ⟨by rfl, ?_⟩) hHeld ?_ ?_
  rotate_left
  · rintro w' ⟨s1, s2, s3, s4, s5, s6⟩
    go_simp
    with_reducible rfl
  rotate_left
  · simp only [Act.put, List.setIfInBounds_toArray, List.set_cons_zero, List.set_cons_succ, i64_w, i32_w]
    rfl
  refine take_ (i := 7) (N := (some 33)) (v := ?_) (a' := ?_) #[true, true, true, true, true, true, true, true, false, true, true, false, true, false, false, true, false, true, false, false, true, true, false, false, false, false, false] rfl rfl (take_ofW HT_.out HW_.out (by kernel_rfl)) (fun _ _ _ h => h) (Or.inl ⟨by rfl, ?_⟩) hHeld ?_ ?_
  rotate_left
  · rintro w' ⟨s1, s2, s3, s4, s5, s6⟩
    go_simp
    with_reducible rfl
  rotate_left
  · simp only [Act.put, List.setIfInBounds_toArray, List.set_cons_zero, List.set_cons_succ, i64_w, i32_w]
    rfl
  refine pure_ (i := 8) (N := (some 34)) (v := ?_) (a' := ?_) #[true, true, true, true, true, true, true, true, true, true, true, false, true, false, false, true, false, true, false, false, true, true, false, false, false, false, false] rfl rfl (any_of HT_.out (by kernel_rfl)) (fun _ _ _ h => h) (Or.inl ⟨by rfl, ?_⟩) ?_ ?_
  rotate_left
  · intro w'
    go_simp
    with_reducible rfl
  rotate_left
  · simp only [Act.put, List.setIfInBounds_toArray, List.set_cons_zero, List.set_cons_succ, i64_w, i32_w]
    rfl
  refine take_ (i := 11) (N := (some 37)) (v := ?_) (a' := ?_) #[true, true, true, true, true, true, true, true, true, true, true, true, true, false, false, true, false, true, false, false, true, true, false, false, false, false, false] rfl rfl (take_ofW HT_.out HW_.out (by kernel_rfl)) (fun _ _ _ h => h) (Or.inl ⟨by rfl, ?_⟩) hHeld ?_ ?_
  rotate_left
  · rintro w' ⟨s1, s2, s3, s4, s5, s6⟩
    go_simp
    with_reducible rfl
  rotate_left
  · simp only [Act.put, List.setIfInBounds_toArray, List.set_cons_zero, List.set_cons_succ, i64_w, i32_w]
    rfl
  refine take_ (i := 13) (N := (some 39)) (v := ?_) (a' := ?_) #[true, true, true, true, true, true, true, true, true, true, true, true, true, true, false, true, false, true, false, false, true, true, false, false, false, false, false] rfl rfl (take_ofW HT_.out HW_.out (by kernel_rfl)) (fun _ _ _ h => h) (Or.inl ⟨by rfl, ?_⟩) hHeld ?_ ?_
  rotate_left
  · rintro w' ⟨s1, s2, s3, s4, s5, s6⟩
    go_simp
    with_reducible rfl
  rotate_left
  · simp only [Act.put, List.setIfInBounds_toArray, List.set_cons_zero, List.set_cons_succ, i64_w, i32_w]
    rfl
  refine pure_ (i := 14) (N := (some 40)) (v := ?_) (a' := ?_) #[true, true, true, true, true, true, true, true, true, true, true, true, true, true, true, true, false, true, false, false, true, true, false, false, false, false, false] rfl rfl (any_of HT_.out (by kernel_rfl)) (fun _ _ _ h => h) (Or.inl ⟨by rfl, ?_⟩) ?_ ?_
  rotate_left
  · intro w'
    go_simp
    with_reducible rfl
  rotate_left
  · simp only [Act.put, List.setIfInBounds_toArray, List.set_cons_zero, List.set_cons_succ, i64_w, i32_w]
    rfl
  refine take_ (i := 16) (N := (some 42)) (v := ?_) (a' := ?_) #[true, true, true, true, true, true, true, true, true, true, true, true, true, true, true, true, true, true, false, false, true, true, false, false, false, false, false] rfl rfl (take_ofW HT_.out HW_.out (by kernel_rfl)) (fun _ _ _ h => h) (Or.inl ⟨by rfl, ?_⟩) hHeld ?_ ?_
  rotate_left
  · rintro w' ⟨s1, s2, s3, s4, s5, s6⟩
    go_simp
    with_reducible rfl
  rotate_left
  · simp only [Act.put, List.setIfInBounds_toArray, List.set_cons_zero, List.set_cons_succ, i64_w, i32_w]
    rfl
  refine take_ (i := 18) (N := (some 44)) (v := ?_) (a' := ?_) #[true, true, true, true, true, true, true, true, true, true, true, true, true, true, true, true, true, true, true, false, true, true, false, false, false, false, false] rfl rfl (take_ofW HT_.out HW_.out (by kernel_rfl)) (fun _ _ _ h => h) (Or.inl ⟨by rfl, ?_⟩) hHeld ?_ ?_
  rotate_left
  · rintro w' ⟨s1, s2, s3, s4, s5, s6⟩
    go_simp
    with_reducible rfl
  rotate_left
  · simp only [Act.put, List.setIfInBounds_toArray, List.set_cons_zero, List.set_cons_succ, i64_w, i32_w]
    rfl
  refine pure_ (i := 19) (N := (some 45)) (v := ?_) (a' := ?_) #[true, true, true, true, true, true, true, true, true, true, true, true, true, true, true, true, true, true, true, true, true, true, false, false, false, false, false] rfl rfl (any_of HT_.out (by kernel_rfl)) (fun _ _ _ h => h) (Or.inl ⟨by rfl, ?_⟩) ?_ ?_
  rotate_left
  · intro w'
    go_simp
    with_reducible rfl
  rotate_left
  · simp only [Act.put, List.setIfInBounds_toArray, List.set_cons_zero, List.set_cons_succ, i64_w, i32_w]
    rfl
  refine take_ (i := 22) (N := (some 48)) (v := ?_) (a' := ?_) #[true, true, true, true, true, true, true, true, true, true, true, true, true, true, true, true, true, true, true, true, true, true, true, false, false, false, false] rfl rfl (take_ofW HT_.out HW_.out (by kernel_rfl)) (fun _ _ _ h => h) (Or.inl ⟨by rfl, ?_⟩) hHeld ?_ ?_
  rotate_left
  · rintro w' ⟨s1, s2, s3, s4, s5, s6⟩
    go_simp
    with_reducible rfl
  rotate_left
  · simp only [Act.put, List.setIfInBounds_toArray, List.set_cons_zero, List.set_cons_succ, i64_w, i32_w]
    rfl
  refine pure_ (i := 23) (N := (some 49)) (v := ?_) (a' := ?_) #[true, true, true, true, true, true, true, true, true, true, true, true, true, true, true, true, true, true, true, true, true, true, true, true, false, false, false] rfl rfl (any_of HT_.out (by kernel_rfl)) (fun _ _ _ h => h) (Or.inl ⟨by rfl, ?_⟩) ?_ ?_
  rotate_left
  · intro w'
    go_simp
    with_reducible rfl
  rotate_left
  · simp only [Act.put, List.setIfInBounds_toArray, List.set_cons_zero, List.set_cons_succ, i64_w, i32_w]
    rfl
  refine one_ (i := 24) (N := (some 50)) #[true, true, true, true, true, true, true, true, true, true, true, true, true, true, true, true, true, true, true, true, true, true, true, true, true, false, false] rfl rfl (one_of HT_.out (by kernel_rfl)) (by decide) (fun K hK => ?_)
  refine value_ (w1 := (WD.alloc (.cells #[.slice A1 l1.length c1, .slice A3 l3.length c3, .slice A5 l5.length c5, .slice A4 l4.length c4, .slice A2 l2.length c2] 22))) (v := .slice (some ⟨WD.heap.size, 0, none⟩) 5 5) (by rfl) rfl ?_ ?_
  · go_simp
    try rfl
  refine hK.out _ _ ⟨(HD.out.below ((Below.refl WD.heap.size WD).alloc (Nat.le_refl _) _)).c1, (HD.out.below ((Below.refl WD.heap.size WD).alloc (Nat.le_refl _) _)).c2, (HD.out.below ((Below.refl WD.heap.size WD).alloc (Nat.le_refl _) _)).c3, (HD.out.below ((Below.refl WD.heap.size WD).alloc (Nat.le_refl _) _)).c4, (HD.out.below ((Below.refl WD.heap.size WD).alloc (Nat.le_refl _) _)).c5, (HD.out.below ((Below.refl WD.heap.size WD).alloc (Nat.le_refl _) _)).c6⟩ (fun hHeld => ?_)
  clear hK K
  refine norm_ (a' := ?_) ?_ ?_
  rotate_left
  · show Act.put _ (some 50) _ = _
    simp only [Act.put, List.setIfInBounds_toArray, List.set_cons_zero, List.set_cons_succ, i64_w, i32_w]
    rfl
  refine one_ (i := 25) (N := (some 51)) #[true, true, true, true, true, true, true, true, true, true, true, true, true, true, true, true, true, true, true, true, true, true, true, true, true, true, false] rfl rfl (one_of HT_.out (by kernel_rfl)) (by decide) (fun K hK => ?_)
  refine goes_ Try.func146 (by kernel_rfl) rfl #[.slice (some ⟨WD.heap.size, 0, none⟩) 5 5] (by rfl) rfl rfl (by (try simp only [List.map_toArray, List.map_cons, List.map_nil]); first | done | rfl) ?_
  refine HTK.out.mono ?_
  rintro e w3 ⟨rfl, hrow, hb⟩
  have HR3 := Lib.hid hrow
  have HB3 := Lib.hid hb
  clear hrow hb
  refine ⟨_, rfl, ?_⟩
  refine hK.out _ _ ⟨((HD.out.below ((Below.refl WD.heap.size WD).alloc (Nat.le_refl _) _)).below (HB3.out.mono (by rw [World.size_alloc]; exact Nat.le_refl _))).c1, ((HD.out.below ((Below.refl WD.heap.size WD).alloc (Nat.le_refl _) _)).below (HB3.out.mono (by rw [World.size_alloc]; exact Nat.le_refl _))).c2, ((HD.out.below ((Below.refl WD.heap.size WD).alloc (Nat.le_refl _) _)).below (HB3.out.mono (by rw [World.size_alloc]; exact Nat.le_refl _))).c3, ((HD.out.below ((Below.refl WD.heap.size WD).alloc (Nat.le_refl _) _)).below (HB3.out.mono (by rw [World.size_alloc]; exact Nat.le_refl _))).c4, ((HD.out.below ((Below.refl WD.heap.size WD).alloc (Nat.le_refl _) _)).below (HB3.out.mono (by rw [World.size_alloc]; exact Nat.le_refl _))).c5, ((HD.out.below ((Below.refl WD.heap.size WD).alloc (Nat.le_refl _) _)).below (HB3.out.mono (by rw [World.size_alloc]; exact Nat.le_refl _))).c6⟩ (fun hHeld => ?_)
  clear hK K
  refine norm_ (a' := ?_) ?_ ?_
  rotate_left
  · show Act.put _ (some 51) _ = _
    simp only [Act.put, List.setIfInBounds_toArray, List.set_cons_zero, List.set_cons_succ, i64_w, i32_w]
    rfl
  refine pure_ (i := 26) (N := (some 4)) (v := ?_) (a' := ?_) #[true, true, true, true, true, true, true, true, true, true, true, true, true, true, true, true, true, true, true, true, true, true, true, true, true, true, true] rfl rfl (any_of HT_.out (by kernel_rfl)) (fun _ _ _ h => h) (Or.inl ⟨by rfl, ?_⟩) ?_ ?_
  rotate_left
  · intro w'
    go_simp
    with_reducible rfl
  rotate_left
  · simp only [Act.put, List.setIfInBounds_toArray, List.set_cons_zero, List.set_cons_succ, i64_w, i32_w]
    rfl
  refine done_ (done_of HT_.out (by kernel_rfl)) ?_
  go_wp2
  go_ret
  rw [HRES.out]
  have hbz : Below w.heap.size w (WD.alloc (.cells #[.slice A1 l1.length c1, .slice A3 l3.length c3, .slice A5 l5.length c5, .slice A4 l4.length c4, .slice A2 l2.length c2] 22)) := HB.out.alloc HB.out.size _
  have hz := hbz.size
  rw [World.size_alloc] at hz
  exact ⟨_, rfl, hz, HR3.out, hbz.trans (HB3.out.mono hz)⟩
/-- A call of a function value that has bound nothing. -/
theorem goesV_ {ops : Array Oper} {Q : Exit → Act → World → Prop} {oi : Oper} {N : Option Tmp} {a : Act} {w : World} {K : Act → World → Prop} {f : FuncId} {fn : Func} {bs : Array Operand} {ts : Array TypeId} (c : Operand) (hf : Try.prog.funcs[f]? = some fn) (hname : (fn.name == "runtime.NumGoroutine") = false) (hb : fn.body.isSome = true) (args : Array Value)
    (hc : a.eval c = .func (.func f) #[] #[]) (hw : Region.wanted oi (yielded ops a.tmps) = true) (hN : oi.dst = N) (hop : oi.op = .call { callee := .value c, args := bs, argTypes := ts }) (hargs : bs.map a.eval = args)
    (h : Calls Try.prog f args w fun e w' => ∃ v, e = .returned v ∧ K (a.put N v) w') : if Region.wanted oi (yielded ops a.tmps) = true then Oper.wp Try.prog oi a w K Q else K (a.put N undef) w := by
  refine call_ f args hw hN ?_ h
  have he := enters_ hf hname hb args w
  unfold execOp
  simp [hop, resolve, Deferred.ofValue, invoke, hc, hargs, he]
theorem place_total (m : Int) : ∃ p, M.mark_place.f 10 m = some p := by
  have e1 : wrap64 (0 + 1) = 1 := by unfold wrap64; omega
  have e2 : wrap64 (1 + 1) = 2 := by unfold wrap64; omega
  have e3 : wrap64 (2 + 1) = 3 := by unfold wrap64; omega
  unfold M.mark_place.f
  rw [show (10 : Nat) = 6 + 1 + 1 + 1 + 1 from rfl]
  rw [M.mark_place.l0, if_pos (by decide), if_pos (by decide)]
  split
  · exact ⟨_, rfl⟩
  rw [e1, M.mark_place.l0, if_pos (by decide), if_pos (by decide)]
  split
  · exact ⟨_, rfl⟩
  rw [e2, M.mark_place.l0, if_pos (by decide), if_pos (by decide)]
  split
  · exact ⟨_, rfl⟩
  rw [e3, M.mark_place.l0, if_neg (by decide)]
  exact ⟨_, rfl⟩
theorem may_total (a m : Int) : ∃ e, M.mark_may.f 10 a m = some e := by
  obtain ⟨p, hp⟩ := place_total m
  unfold M.mark_may.f
  rw [hp, Option.bind_some]
  split
  · exact ⟨_, rfl⟩
  · unfold M.mark_Right.f
    split <;> (rw [Option.bind_some]; split <;> exact ⟨_, rfl⟩)
def addV (a m : Int) : Int := ((M.mark_Add.f 10 a m).getD (0, 0)).1
def takeV (a m : Int) : Int := ((M.mark_Take.f 10 a m).getD (0, 0)).1
theorem add_is (a m : Int) (w : World) : Calls Try.prog 147 #[.int .i64 a, .int .i64 m] w fun e w' => ∃ r, e = .returned (.tuple #[.int .i64 (addV a m), .int .i64 r]) ∧ Drawn0 w w' := by
  have h : ∃ q : Int × Int, M.mark_Add.f 10 a m = some q := by
    obtain ⟨e, he⟩ := may_total a m
    unfold M.mark_Add.f
    rw [he, Option.bind_some]
    split
    · split
      · exact ⟨_, rfl⟩
      · split <;> exact ⟨_, rfl⟩
    · exact ⟨_, rfl⟩
  obtain ⟨⟨r1, r2⟩, hq⟩ := h
  have hv : addV a m = r1 := by unfold addV; rw [hq]; rfl
  rw [hv]
  exact (M.mark_Add.calls 10 a m r1 r2 w hq).mono fun e w' he => ⟨r2, he.1, he.2⟩
theorem take_is (a m : Int) (w : World) : Calls Try.prog 148 #[.int .i64 a, .int .i64 m] w fun e w' => ∃ r, e = .returned (.tuple #[.int .i64 (takeV a m), .int .i64 r]) ∧ Drawn0 w w' := by
  have h : ∃ q : Int × Int, M.mark_Take.f 10 a m = some q := by
    obtain ⟨e, he⟩ := may_total a m
    unfold M.mark_Take.f
    rw [he, Option.bind_some]
    split <;> exact ⟨_, rfl⟩
  obtain ⟨⟨r1, r2⟩, hq⟩ := h
  have hv : takeV a m = r1 := by unfold takeV; rw [hq]; rfl
  rw [hv]
  exact (M.mark_Take.calls 10 a m r1 r2 w hq).mono fun e w' he => ⟨r2, he.1, he.2⟩
/-- The marks of n tokens from a place on, turned. -/
def turnT (f : Int → Int) (x : K.S111) : K.S111 := if x.f0 = 0 then ⟨x.f0, x.f1, x.f2, f x.f3⟩ else x
def turnL (f : Int → Int) (a : Nat) : Nat → List K.S111 → List K.S111
  | 0, l => l
  | n + 1, l => (turnL f a n l).set (a + n) (turnT f ((turnL f a n l).getD (a + n) K.z111))
theorem turnL_length (f : Int → Int) (a n : Nat) (l : List K.S111) : (turnL f a n l).length = l.length := by
  induction n with
  | zero => rfl
  | succ n ih => rw [turnL, List.length_set, ih]
theorem toksV_set (l : List K.S111) (i : Nat) (h : i < l.length) (v : Int) : (toksV l).set (i * 4 + 3) (.int .i64 v) = toksV (l.set i ⟨l[i].f0, l[i].f1, l[i].f2, v⟩) := by
  induction l generalizing i with
  | nil => simp at h
  | cons x l ih =>
    cases i with
    | zero => rfl
    | succ i =>
      have hi : i < l.length := by simpa using h
      show (tokV x ++ toksV l).set ((i + 1) * 4 + 3) (.int .i64 v) = tokV x ++ toksV (l.set i ⟨l[i].f0, l[i].f1, l[i].f2, v⟩)
      rw [← ih i hi, List.set_append_right _ _ (by simp [tokV]; omega)]
      congr 2
      simp [tokV]
      omega
theorem row_c {w : World} {Q : Nat} {l : List K.S111} (h : w.heap[Q]? = some (.cells (toksV l).toArray 111 (0, 0))) (i : Nat) (hi : i < l.length) : w.cell? ⟨Q, i * 4, none⟩ = some (.int .i64 l[i].f0) ∧ w.cell? ⟨Q, i * 4 + 3, none⟩ = some (.int .i64 l[i].f3) ∧ w.frozen? ⟨Q, i * 4 + 3, none⟩ = false := by
  have h0 := toksV_get l i 0 (by decide)
  have h3 := toksV_get l i 3 (by decide)
  rw [List.getElem?_eq_getElem hi] at h0 h3
  refine ⟨?_, ?_, ?_⟩
  · simp only [World.cell?, h]
    simpa [tokV] using h0
  · simp only [World.cell?, h]
    simpa [tokV] using h3
  · simp [World.frozen?, h]
theorem row_set {w : World} {Q : Nat} {l : List K.S111} (h : w.heap[Q]? = some (.cells (toksV l).toArray 111 (0, 0))) (i : Nat) (hi : i < l.length) (v : Int) : (w.setCell ⟨Q, i * 4 + 3, none⟩ (.int .i64 v)).heap[Q]? = some (.cells (toksV (l.set i ⟨l[i].f0, l[i].f1, l[i].f2, v⟩)).toArray 111 (0, 0)) := by
  rw [setCell_eq_setRow w Q (i * 4 + 3) _ 111 (0, 0) (.int .i64 v) h, setRow_heap w Q _ _ 111 _ h, ← toksV_set l i hi v]
  simp
def doR14.T : Bool × List (List Nat × List Nat) := (true, [([], []), ([], []), ([], []), ([], []), ([], []), ([3, 4], [3, 4]), ([5], [5]), ([6], [6]), ([], []), ([8], [8]), ([2, 7, 9], [2, 7, 9]), ([10], [10]), ([11], [11]), ([11], [11]), ([0, 1, 0, 1, 2, 3, 4, 5, 6, 7, 8, 9, 10, 11, 12], [0, 1]), ([14, 0, 1, 2, 3, 4, 5, 6, 7, 8, 9, 10, 11, 12], [14]), ([15, 12, 10, 0, 1, 2, 3, 4, 5, 6, 7, 8, 9, 10, 11, 12], [12, 15])])
def doR14.B : List Nat := [0, 0, 0, 0, 0, 24, 56, 120, 0, 256, 1020, 2044, 4092, 4092, 8191, 24575, 57343]
theorem doR14.tab : rtab .any (opsOf Try.f98 14) = doR14.T := by kernel_rfl
theorem doR14.bits : waitsOk doR14.T.2 doR14.B = true := by kernel_rfl

set_option maxHeartbeats 16000000 in
theorem do2_is (A : Option Addr) (c : Nat) (l : List K.S111) (B : Option Addr) (d : Nat) (F T : Nat) (g1 g2 ins mk : Int) (sl : List K.S111) (w : World) (hr : Kd.C K.k111 w A l.length l) (hc : l.length ≤ c) (hF : F ≤ T) (hT : T ≤ l.length) (hl : l.length ≤ 2048) :
    Calls Try.prog 98 #[.slice A l.length c, stpV ⟨2, F, T, g1, g2, ins, sl, mk⟩ B d] w fun e w' => Made w w' e (turnL (fun v => addV v mk) F (T - F) l) := by
  have H1 := Lib.hid hr
  clear hr
  obtain ⟨fv, hfv⟩ : ∃ fv : Int → Int, fv = fun v => addV v mk := ⟨_, rfl⟩
  rw [← hfv]
  have HFV := Lib.hid hfv
  obtain ⟨r, hres⟩ : ∃ r, turnL fv F (T - F) l = r := ⟨_, rfl⟩
  rw [hres]
  have HRES := Lib.hid hres
  clear hfv hres
  unfold stpV
  go_enter Try.func98, Try.ntmps98
  go_upto_region 1 with (fail)
  obtain ⟨wB, hwB⟩ : ∃ wB, w.alloc (.cells #[.int .i64 2, .int .i64 F, .int .i64 T, .int .i64 g1, .int .i64 g2, .int .i64 ins, .slice B sl.length d, .int .i64 mk] 24) = wB := ⟨_, rfl⟩
  have hsb : StpB wB w.heap.size ⟨2, F, T, g1, g2, ins, sl, mk⟩ B d := by rw [← hwB]; exact World.alloc_heap_new w _
  have hbb : Below w.heap.size w wB := by rw [← hwB]; exact (Below.refl _ _).alloc (Nat.le_refl _) _
  rw [hwB]
  have d0 := hsb.c0
  have d1 := hsb.c1
  have d2 := hsb.c2
  have HS := Lib.hid hsb
  have HB := Lib.hid hbb
  have HZ := Lib.hid hbb.size
  clear hwB hsb hbb
  obtain ⟨p1, hp1⟩ : ∃ p1 : Nat, w.heap.size = p1 := ⟨_, rfl⟩
  have HP1 := Lib.hid hp1
  rw [hp1] at HS d0 d1 d2 ⊢
  clear hp1
  have htk : Calls Try.prog 146 #[.slice (some ⟨wB.heap.size, 0, none⟩) 1 1] (wB.alloc (.cells #[.slice A l.length c] 22)) fun e w' => e = .returned (.slice (some ⟨wB.heap.size + 1, 0, none⟩) l.length l.length) ∧ w'.heap[wB.heap.size + 1]? = some (.cells (toksV l).toArray 111 (0, 0)) ∧ Below (wB.heap.size + 1) (wB.alloc (.cells #[.slice A l.length c] 22)) w' := by
    have hpc : pcL [(A, c, l)] = l := by simp [pcL]
    have h := tokens_is wB.heap.size [(A, c, l)] (wB.alloc (.cells #[.slice A l.length c] 22)) (World.alloc_heap_new wB _) (fun p hp => by rw [List.mem_singleton] at hp; subst hp; exact Kd.C_below H1.out (HB.out.alloc HB.out.size _)) (by simp) (by rw [hpc]; omega)
    rw [hpc, World.size_alloc] at h
    exact h
  have HTK := Lib.hid htk
  clear htk
  go_wp2_with (go_at_call 146; refine HTK.out.mono ?_; rintro e w3 ⟨rfl, hrow, hb⟩; have hbz := (Below.refl wB.heap.size wB).alloc (Nat.le_refl _) (.cells #[.slice A l.length c] 22); have hb3 : Below wB.heap.size wB w3 := hbz.trans (hb.mono (by omega)); have HR3 := Lib.hid hrow; have HB3 := Lib.hid (HB.out.trans (hb3.mono HZ.out)); have hs3 := HS.out.below hb3; have d1 := hs3.c1; have HS3 := Lib.hid hs3; clear hrow hb hbz hb3 hs3)
  obtain ⟨Q, hQ⟩ : ∃ Q, wB.heap.size + 1 = Q := ⟨_, rfl⟩
  have HQ : Hid (w.heap.size ≤ Q) := Lib.hid (by have := HZ.out; omega)
  have HQ1 : Hid (p1 < Q) := Lib.hid (by have := HS.out.lt; omega)
  rw [hQ] at HR3 ⊢
  clear hQ HTK HS HB d0 d1 d2
  obtain ⟨n0, hn0⟩ : ∃ n0, l.length = n0 := ⟨_, rfl⟩
  have HLEN : Hid (∀ n, (turnL fv F n l).length = n0) := Lib.hid (fun n => (turnL_length fv F n l).trans hn0)
  rw [hn0] at hc hT hl ⊢
  clear hn0
  go_loopg [7] (T - F) (fun g s7 wr => ∃ n : Nat, s7 = .int .i64 ((F + n : Nat) : Int) ∧ F + n ≤ T ∧ g = T - F - n ∧ Hid (wr.heap[Q]? = some (.cells (toksV (turnL fv F n l)).toArray 111 (0, 0))) ∧ Hid (StpB wr p1 ⟨2, F, T, g1, g2, ins, sl, mk⟩ B d) ∧ Hid (Below w.heap.size w wr))
  case atStart => exact ⟨0, rfl, hF, rfl, HR3, HS3, HB3⟩
  case round =>
    clear HR3 HS3 HB3
    obtain ⟨n, rfl, hn, hg, HR, HS, HB⟩ := hrel
    have d2 := HS.out.c2
    by_cases hlt : F + n < T
    · obtain ⟨i, hi⟩ : ∃ i, F + n = i := ⟨_, rfl⟩
      obtain ⟨m, hm⟩ : ∃ m, turnL fv F n l = m := ⟨_, rfl⟩
      have hml : m.length = n0 := by rw [← hm]; exact HLEN.out n
      have him : i < m.length := by omega
      have hnx : turnL fv F (n + 1) l = m.set i (turnT fv m[i]) := by
        rw [turnL, hm, hi]
        congr 2
        simp [List.getD, him]
      rw [hm] at HR
      rw [hi] at hlt ⊢
      obtain ⟨c0, c3, cf⟩ := row_c HR.out i him
      have hset := row_set HR.out i him
      obtain ⟨x, hx⟩ : ∃ x, m[i] = x := ⟨_, rfl⟩
      rw [hx] at c0 c3 hset hnx
      have hi0 : (i : Int) < n0 := by omega
      by_cases hk : x.f0 = 0
      · rw [hk] at c0
        have HNX : Hid (turnL fv F (n + 1) l = m.set i ⟨x.f0, x.f1, x.f2, fv x.f3⟩) := Lib.hid (by rw [hnx]; unfold turnT; rw [if_pos hk])
        have HI := Lib.hid hi
        have HX := Lib.hid hx
        have HIM := Lib.hid him
        have HML := Lib.hid hml
        clear hset hnx hx hi hm hml
        go_upto_region 14 with (fail)
        have HHI := Lib.hid hi0
        obtain ⟨wD, hwD⟩ : ∃ wD, wr = wD := ⟨_, rfl⟩
        rw [hwD] at HR HS HB d2 c0 c3 cf ⊢
        clear hwD d2 c0 cf
        have hbd : Below wD.heap.size wD wD.drew := below_drew1 (Below.refl _ _)
        have HRD := Lib.hid ((hbd.block _ (Array.getElem?_eq_some_iff.1 HR.out).1).trans HR.out)
        have HSD := Lib.hid (HS.out.below hbd)
        have HBD := Lib.hid (HB.out.trans (hbd.mono HB.out.size))
        have q3 : wD.drew.cell? ⟨Q, i * 4 + 3, none⟩ = some (.int .i64 x.f3) := pw_cell_below hbd c3
        have q7 := HSD.out.c7
        clear hbd c3
        refine start_ (n := 17) (S := fun w' => w'.cell? ⟨Q, i * 4 + 3, none⟩ = some (.int .i64 x.f3) ∧ w'.cell? ⟨p1, 7, none⟩ = some (.int .i64 mk)) (ds := [16]) #[false, false, false, false, false, false, false, false, false, false, false, false, false, false, false, false, false] (by kernel_rfl) rfl rfl ⟨q3, q7⟩ (fun hHeld => ?_); refine with_tabW doR14.tab doR14.bits (fun HT_ HW_ => ?_)
        obtain ⟨WD, hWD⟩ : ∃ X, wD.drew = X := ⟨_, rfl⟩
        rw [hWD] at hHeld HRD HSD HBD ⊢
        clear hWD
        refine pure_ (i := 0) (N := (some 73)) (v := ?_) (a' := ?_) #[true, false, false, false, false, false, false, false, false, false, false, false, false, false, false, false, false] rfl rfl (any_of HT_.out (by kernel_rfl)) (fun _ _ _ h => h) (Or.inl ⟨by rfl, ?_⟩) ?_ ?_
        rotate_left
        · intro w'
          go_simp
          with_reducible rfl
        rotate_left
        · simp only [Act.put, List.setIfInBounds_toArray, List.set_cons_zero, List.set_cons_succ, i64_w, i32_w]
          rfl
        refine pure_ (i := 1) (N := (some 74)) (v := ?_) (a' := ?_) #[true, true, false, false, false, false, false, false, false, false, false, false, false, false, false, false, false] rfl rfl (any_of HT_.out (by kernel_rfl)) (fun _ _ _ h => h) (Or.inl ⟨by rfl, ?_⟩) ?_ ?_
        rotate_left
        · intro w'
          go_simp
          with_reducible rfl
        rotate_left
        · simp only [Act.put, List.setIfInBounds_toArray, List.set_cons_zero, List.set_cons_succ, i64_w, i32_w]
          rfl
        refine pure_ (i := 2) (N := (some 75)) (v := ?_) (a' := ?_) #[true, true, true, false, false, false, false, false, false, false, false, false, false, false, false, false, false] rfl rfl (any_of HT_.out (by kernel_rfl)) (fun _ _ _ h => h) (Or.inl ⟨by rfl, ?_⟩) ?_ ?_
        rotate_left
        · intro w'
          go_simp
          with_reducible rfl
        rotate_left
        · simp only [Act.put, List.setIfInBounds_toArray, List.set_cons_zero, List.set_cons_succ, i64_w, i32_w]
          rfl
        refine pure_ (i := 3) (N := (some 76)) (v := ?_) (a' := ?_) #[true, true, true, true, false, false, false, false, false, false, false, false, false, false, false, false, false] rfl rfl (any_of HT_.out (by kernel_rfl)) (fun _ _ _ h => h) (Or.inl ⟨by rfl, ?_⟩) ?_ ?_
        rotate_left
        · intro w'
          go_simp
          with_reducible rfl
        rotate_left
        · simp only [Act.put, List.setIfInBounds_toArray, List.set_cons_zero, List.set_cons_succ, i64_w, i32_w]
          rfl
        refine pure_ (i := 4) (N := (some 77)) (v := ?_) (a' := ?_) #[true, true, true, true, true, false, false, false, false, false, false, false, false, false, false, false, false] rfl rfl (any_of HT_.out (by kernel_rfl)) (fun _ _ _ h => h) (Or.inl ⟨by rfl, ?_⟩) ?_ ?_
        rotate_left
        · intro w'
          go_simp
          with_reducible rfl
        rotate_left
        · simp only [Act.put, List.setIfInBounds_toArray, List.set_cons_zero, List.set_cons_succ, i64_w, i32_w]
          rfl
        refine pure_ (i := 5) (N := (some 78)) (v := ?_) (a' := ?_) #[true, true, true, true, true, true, false, false, false, false, false, false, false, false, false, false, false] rfl rfl (any_of HT_.out (by kernel_rfl)) (fun _ _ _ h => h) (Or.inl ⟨by rfl, ?_⟩) ?_ ?_
        rotate_left
        · intro w'
          go_simp
          with_reducible rfl
        rotate_left
        · simp only [Act.put, List.setIfInBounds_toArray, List.set_cons_zero, List.set_cons_succ, i64_w, i32_w]
          rfl
        refine pure_ (i := 6) (N := (some 79)) (v := ?_) (a' := ?_) #[true, true, true, true, true, true, true, false, false, false, false, false, false, false, false, false, false] rfl rfl (any_of HT_.out (by kernel_rfl)) (fun _ _ _ h => h) (Or.inl ⟨by rfl, ?_⟩) ?_ ?_
        rotate_left
        · intro w'
          go_simp
          with_reducible rfl
        rotate_left
        · simp only [Act.put, List.setIfInBounds_toArray, List.set_cons_zero, List.set_cons_succ, i64_w, i32_w]
          rfl
        refine pure_ (i := 8) (N := (some 81)) (v := ?_) (a' := ?_) #[true, true, true, true, true, true, true, false, true, false, false, false, false, false, false, false, false] rfl rfl (any_of HT_.out (by kernel_rfl)) (fun _ _ _ h => h) (Or.inl ⟨by rfl, ?_⟩) ?_ ?_
        rotate_left
        · intro w'
          go_simp
          with_reducible rfl
        rotate_left
        · simp only [Act.put, List.setIfInBounds_toArray, List.set_cons_zero, List.set_cons_succ, i64_w, i32_w]
          rfl
        refine take_ (i := 7) (N := (some 80)) (v := ?_) (a' := ?_) #[true, true, true, true, true, true, true, true, true, false, false, false, false, false, false, false, false] rfl rfl (take_ofW HT_.out HW_.out (by kernel_rfl)) (fun _ _ _ h => h) (Or.inl ⟨by rfl, ?_⟩) hHeld ?_ ?_
        rotate_left
        · rintro w' ⟨s3, s7⟩
          go_simp
          with_reducible rfl
        rotate_left
        · simp only [Act.put, List.setIfInBounds_toArray, List.set_cons_zero, List.set_cons_succ, i64_w, i32_w]
          rfl
        refine take_ (i := 9) (N := (some 82)) (v := ?_) (a' := ?_) #[true, true, true, true, true, true, true, true, true, true, false, false, false, false, false, false, false] rfl rfl (take_ofW HT_.out HW_.out (by kernel_rfl)) (fun _ _ _ h => h) (Or.inl ⟨by rfl, ?_⟩) hHeld ?_ ?_
        rotate_left
        · rintro w' ⟨s3, s7⟩
          go_simp
          with_reducible rfl
        rotate_left
        · simp only [Act.put, List.setIfInBounds_toArray, List.set_cons_zero, List.set_cons_succ, i64_w, i32_w]
          rfl
        refine one_ (i := 10) (N := (some 83)) #[true, true, true, true, true, true, true, true, true, true, true, false, false, false, false, false, false] rfl rfl (one_of HT_.out (by kernel_rfl)) (by decide) (fun K hK => ?_)
        refine goesV_ (.tmp 75) Try.func147 (by kernel_rfl) rfl #[.int .i64 x.f3, .int .i64 mk] (by rfl) (by rfl) rfl rfl (by (try simp only [List.map_toArray, List.map_cons, List.map_nil]); first | done | rfl) ?_
        refine (add_is x.f3 mk WD).mono ?_
        rintro e w4 ⟨r4, rfl, hdr⟩
        have hb4 := hdr.below
        have hR4 := (hb4.block _ (Array.getElem?_eq_some_iff.1 HRD.out).1).trans HRD.out
        obtain ⟨y0, y3, yf⟩ := row_c hR4 i HIM.out
        rw [HX.out] at y3
        have hs4 := HSD.out.below hb4
        have y7 := hs4.c7
        have HR4 := Lib.hid hR4
        have HS4 := Lib.hid hs4
        have HB4 := Lib.hid (HBD.out.trans (hb4.mono HBD.out.size))
        clear hdr hb4 hR4 y0 hs4
        refine ⟨_, rfl, ?_⟩
        refine hK.out _ _ ⟨y3, y7⟩ (fun hHeld => ?_)
        clear hK K
        refine norm_ (a' := ?_) ?_ ?_
        rotate_left
        · show Act.put _ (some 83) _ = _
          simp only [Act.put, List.setIfInBounds_toArray, List.set_cons_zero, List.set_cons_succ, i64_w, i32_w]
          rfl
        refine pure_ (i := 11) (N := (some 72)) (v := ?_) (a' := ?_) #[true, true, true, true, true, true, true, true, true, true, true, true, false, false, false, false, false] rfl rfl (any_of HT_.out (by kernel_rfl)) (fun _ _ _ h => h) (Or.inl ⟨by rfl, ?_⟩) ?_ ?_
        rotate_left
        · intro w'
          go_simp
          with_reducible rfl
        rotate_left
        · simp only [Act.put, List.setIfInBounds_toArray, List.set_cons_zero, List.set_cons_succ, i64_w, i32_w]
          rfl
        refine pure_ (i := 12) (N := (some 84)) (v := ?_) (a' := ?_) #[true, true, true, true, true, true, true, true, true, true, true, true, true, false, false, false, false] rfl rfl (any_of HT_.out (by kernel_rfl)) (fun _ _ _ h => h) (Or.inl ⟨by rfl, ?_⟩) ?_ ?_
        rotate_left
        · intro w'
          go_simp
          with_reducible rfl
        rotate_left
        · simp only [Act.put, List.setIfInBounds_toArray, List.set_cons_zero, List.set_cons_succ, i64_w, i32_w]
          rfl
        refine pure_ (i := 13) (N := (some 85)) (v := ?_) (a' := ?_) #[true, true, true, true, true, true, true, true, true, true, true, true, true, true, false, false, false] rfl rfl (any_of HT_.out (by kernel_rfl)) (fun _ _ _ h => h) (Or.inl ⟨by rfl, ?_⟩) ?_ ?_
        rotate_left
        · intro w'
          go_simp
          with_reducible rfl
        rotate_left
        · simp only [Act.put, List.setIfInBounds_toArray, List.set_cons_zero, List.set_cons_succ, i64_w, i32_w]
          rfl
        refine pure_ (i := 14) (N := (some 86)) (v := ?_) (a' := ?_) #[true, true, true, true, true, true, true, true, true, true, true, true, true, true, true, false, false] rfl rfl (any_of HT_.out (by kernel_rfl)) (fun _ _ _ h => h) (Or.inl ⟨by rfl, ?_⟩) ?_ ?_
        rotate_left
        · intro w'
          go_simp
          with_reducible rfl
        rotate_left
        · simp only [Act.put, List.setIfInBounds_toArray, List.set_cons_zero, List.set_cons_succ, i64_w, i32_w]
          rfl
        refine pure_ (i := 15) (N := (some 87)) (v := ?_) (a' := ?_) #[true, true, true, true, true, true, true, true, true, true, true, true, true, true, true, true, false] rfl rfl (any_of HT_.out (by kernel_rfl)) (fun _ _ _ h => h) (Or.inl ⟨by rfl, ?_⟩) ?_ ?_
        rotate_left
        · intro w'
          go_simp
          with_reducible rfl
        rotate_left
        · simp only [Act.put, List.setIfInBounds_toArray, List.set_cons_zero, List.set_cons_succ, i64_w, i32_w]
          rfl
        refine last_ (i := 16) (N := none) #[true, true, true, true, true, true, true, true, true, true, true, true, true, true, true, true, true] rfl rfl (one_of HT_.out (by kernel_rfl)) (by decide) (fun K hK => ?_)
        refine skip_ (w1 := w4.setCell ⟨Q, i * 4 + 3, none⟩ (.int .i64 (addV x.f3 mk))) (by rfl) rfl ?_ ?_
        · go_simp
          try rfl
        refine hK.out _ _ ?_
        clear hK K
        refine done_ (done_of HT_.out (by kernel_rfl)) ?_
        have HR5 := Lib.hid (row_set HR4.out i HIM.out (addV x.f3 mk))
        rw [HX.out] at HR5
        have hs5 : StpB (w4.setCell ⟨Q, i * 4 + 3, none⟩ (.int .i64 (addV x.f3 mk))) p1 ⟨2, F, T, g1, g2, ins, sl, mk⟩ B d := (Below.heap_setCell w4 ⟨Q, i * 4 + 3, none⟩ _ p1 (by have := HQ1.out; show p1 ≠ Q; omega)).trans HS4.out
        have HS5 := Lib.hid hs5
        have HB5 := Lib.hid (HB4.out.setCell (p := ⟨Q, i * 4 + 3, none⟩) HQ.out (.int .i64 (addV x.f3 mk)))
        clear hs5
        go_wp2
        go_roundg (T - F - (n + 1))
        case measure => (have := HI.out; omega)
        case rel => exact ⟨n + 1, by rw [← Nat.add_assoc, HI.out]; go_num, by have := HI.out; omega, rfl, by rw [HNX.out, HFV.out]; exact HR5, HS5, HB5⟩
      · have HNX : Hid (turnL fv F (n + 1) l = m) := Lib.hid (by rw [hnx]; unfold turnT; rw [if_neg hk, ← hx]; exact List.set_getElem_self him)
        have HI := Lib.hid hi
        clear hset hnx hx hi hm him hml
        go_wp2
        go_roundg (T - F - (n + 1))
        case measure => (have := HI.out; omega)
        case rel => exact ⟨n + 1, by rw [← Nat.add_assoc, HI.out]; go_num, by have := HI.out; omega, rfl, by rw [HNX.out]; exact HR, HS, HB⟩
    · have e : T - F = n := by omega
      have HRR : Hid (turnL fv F n l = r) := Lib.hid (by rw [← e]; exact HRES.out)
      clear e
      go_wp2
      go_ret
      exact ⟨Q, by rw [← HRR.out, HLEN.out]; rfl, HQ.out, by rw [← HRR.out]; exact HR.out, HB.out⟩

set_option maxHeartbeats 16000000 in
theorem do3_is (A : Option Addr) (c : Nat) (l : List K.S111) (B : Option Addr) (d : Nat) (F T : Nat) (g1 g2 ins mk : Int) (sl : List K.S111) (w : World) (hr : Kd.C K.k111 w A l.length l) (hc : l.length ≤ c) (hF : F ≤ T) (hT : T ≤ l.length) (hl : l.length ≤ 2048) :
    Calls Try.prog 98 #[.slice A l.length c, stpV ⟨3, F, T, g1, g2, ins, sl, mk⟩ B d] w fun e w' => Made w w' e (turnL (fun v => takeV v mk) F (T - F) l) := by
  have H1 := Lib.hid hr
  clear hr
  obtain ⟨fv, hfv⟩ : ∃ fv : Int → Int, fv = fun v => takeV v mk := ⟨_, rfl⟩
  rw [← hfv]
  have HFV := Lib.hid hfv
  obtain ⟨r, hres⟩ : ∃ r, turnL fv F (T - F) l = r := ⟨_, rfl⟩
  rw [hres]
  have HRES := Lib.hid hres
  clear hfv hres
  unfold stpV
  go_enter Try.func98, Try.ntmps98
  go_upto_region 1 with (fail)
  obtain ⟨wB, hwB⟩ : ∃ wB, w.alloc (.cells #[.int .i64 3, .int .i64 F, .int .i64 T, .int .i64 g1, .int .i64 g2, .int .i64 ins, .slice B sl.length d, .int .i64 mk] 24) = wB := ⟨_, rfl⟩
  have hsb : StpB wB w.heap.size ⟨3, F, T, g1, g2, ins, sl, mk⟩ B d := by rw [← hwB]; exact World.alloc_heap_new w _
  have hbb : Below w.heap.size w wB := by rw [← hwB]; exact (Below.refl _ _).alloc (Nat.le_refl _) _
  rw [hwB]
  have d0 := hsb.c0
  have d1 := hsb.c1
  have d2 := hsb.c2
  have HS := Lib.hid hsb
  have HB := Lib.hid hbb
  have HZ := Lib.hid hbb.size
  clear hwB hsb hbb
  obtain ⟨p1, hp1⟩ : ∃ p1 : Nat, w.heap.size = p1 := ⟨_, rfl⟩
  have HP1 := Lib.hid hp1
  rw [hp1] at HS d0 d1 d2 ⊢
  clear hp1
  have htk : Calls Try.prog 146 #[.slice (some ⟨wB.heap.size, 0, none⟩) 1 1] (wB.alloc (.cells #[.slice A l.length c] 22)) fun e w' => e = .returned (.slice (some ⟨wB.heap.size + 1, 0, none⟩) l.length l.length) ∧ w'.heap[wB.heap.size + 1]? = some (.cells (toksV l).toArray 111 (0, 0)) ∧ Below (wB.heap.size + 1) (wB.alloc (.cells #[.slice A l.length c] 22)) w' := by
    have hpc : pcL [(A, c, l)] = l := by simp [pcL]
    have h := tokens_is wB.heap.size [(A, c, l)] (wB.alloc (.cells #[.slice A l.length c] 22)) (World.alloc_heap_new wB _) (fun p hp => by rw [List.mem_singleton] at hp; subst hp; exact Kd.C_below H1.out (HB.out.alloc HB.out.size _)) (by simp) (by rw [hpc]; omega)
    rw [hpc, World.size_alloc] at h
    exact h
  have HTK := Lib.hid htk
  clear htk
  go_wp2_with (go_at_call 146; refine HTK.out.mono ?_; rintro e w3 ⟨rfl, hrow, hb⟩; have hbz := (Below.refl wB.heap.size wB).alloc (Nat.le_refl _) (.cells #[.slice A l.length c] 22); have hb3 : Below wB.heap.size wB w3 := hbz.trans (hb.mono (by omega)); have HR3 := Lib.hid hrow; have HB3 := Lib.hid (HB.out.trans (hb3.mono HZ.out)); have hs3 := HS.out.below hb3; have d1 := hs3.c1; have HS3 := Lib.hid hs3; clear hrow hb hbz hb3 hs3)
  obtain ⟨Q, hQ⟩ : ∃ Q, wB.heap.size + 1 = Q := ⟨_, rfl⟩
  have HQ : Hid (w.heap.size ≤ Q) := Lib.hid (by have := HZ.out; omega)
  have HQ1 : Hid (p1 < Q) := Lib.hid (by have := HS.out.lt; omega)
  rw [hQ] at HR3 ⊢
  clear hQ HTK HS HB d0 d1 d2
  obtain ⟨n0, hn0⟩ : ∃ n0, l.length = n0 := ⟨_, rfl⟩
  have HLEN : Hid (∀ n, (turnL fv F n l).length = n0) := Lib.hid (fun n => (turnL_length fv F n l).trans hn0)
  rw [hn0] at hc hT hl ⊢
  clear hn0
  go_loopg [7] (T - F) (fun g s7 wr => ∃ n : Nat, s7 = .int .i64 ((F + n : Nat) : Int) ∧ F + n ≤ T ∧ g = T - F - n ∧ Hid (wr.heap[Q]? = some (.cells (toksV (turnL fv F n l)).toArray 111 (0, 0))) ∧ Hid (StpB wr p1 ⟨3, F, T, g1, g2, ins, sl, mk⟩ B d) ∧ Hid (Below w.heap.size w wr))
  case atStart => exact ⟨0, rfl, hF, rfl, HR3, HS3, HB3⟩
  case round =>
    clear HR3 HS3 HB3
    obtain ⟨n, rfl, hn, hg, HR, HS, HB⟩ := hrel
    have d2 := HS.out.c2
    by_cases hlt : F + n < T
    · obtain ⟨i, hi⟩ : ∃ i, F + n = i := ⟨_, rfl⟩
      obtain ⟨m, hm⟩ : ∃ m, turnL fv F n l = m := ⟨_, rfl⟩
      have hml : m.length = n0 := by rw [← hm]; exact HLEN.out n
      have him : i < m.length := by omega
      have hnx : turnL fv F (n + 1) l = m.set i (turnT fv m[i]) := by
        rw [turnL, hm, hi]
        congr 2
        simp [List.getD, him]
      rw [hm] at HR
      rw [hi] at hlt ⊢
      obtain ⟨c0, c3, cf⟩ := row_c HR.out i him
      have hset := row_set HR.out i him
      obtain ⟨x, hx⟩ : ∃ x, m[i] = x := ⟨_, rfl⟩
      rw [hx] at c0 c3 hset hnx
      have hi0 : (i : Int) < n0 := by omega
      by_cases hk : x.f0 = 0
      · rw [hk] at c0
        have HNX : Hid (turnL fv F (n + 1) l = m.set i ⟨x.f0, x.f1, x.f2, fv x.f3⟩) := Lib.hid (by rw [hnx]; unfold turnT; rw [if_pos hk])
        have HI := Lib.hid hi
        have HX := Lib.hid hx
        have HIM := Lib.hid him
        have HML := Lib.hid hml
        clear hset hnx hx hi hm hml
        go_upto_region 14 with (fail)
        have HHI := Lib.hid hi0
        obtain ⟨wD, hwD⟩ : ∃ wD, wr = wD := ⟨_, rfl⟩
        rw [hwD] at HR HS HB d2 c0 c3 cf ⊢
        clear hwD d2 c0 cf
        have hbd : Below wD.heap.size wD wD.drew := below_drew1 (Below.refl _ _)
        have HRD := Lib.hid ((hbd.block _ (Array.getElem?_eq_some_iff.1 HR.out).1).trans HR.out)
        have HSD := Lib.hid (HS.out.below hbd)
        have HBD := Lib.hid (HB.out.trans (hbd.mono HB.out.size))
        have q3 : wD.drew.cell? ⟨Q, i * 4 + 3, none⟩ = some (.int .i64 x.f3) := pw_cell_below hbd c3
        have q7 := HSD.out.c7
        clear hbd c3
        refine start_ (n := 17) (S := fun w' => w'.cell? ⟨Q, i * 4 + 3, none⟩ = some (.int .i64 x.f3) ∧ w'.cell? ⟨p1, 7, none⟩ = some (.int .i64 mk)) (ds := [16]) #[false, false, false, false, false, false, false, false, false, false, false, false, false, false, false, false, false] (by kernel_rfl) rfl rfl ⟨q3, q7⟩ (fun hHeld => ?_); refine with_tabW doR14.tab doR14.bits (fun HT_ HW_ => ?_)
        obtain ⟨WD, hWD⟩ : ∃ X, wD.drew = X := ⟨_, rfl⟩
        rw [hWD] at hHeld HRD HSD HBD ⊢
        clear hWD
        refine pure_ (i := 0) (N := (some 73)) (v := ?_) (a' := ?_) #[true, false, false, false, false, false, false, false, false, false, false, false, false, false, false, false, false] rfl rfl (any_of HT_.out (by kernel_rfl)) (fun _ _ _ h => h) (Or.inl ⟨by rfl, ?_⟩) ?_ ?_
        rotate_left
        · intro w'
          go_simp
          with_reducible rfl
        rotate_left
        · simp only [Act.put, List.setIfInBounds_toArray, List.set_cons_zero, List.set_cons_succ, i64_w, i32_w]
          rfl
        refine pure_ (i := 1) (N := (some 74)) (v := ?_) (a' := ?_) #[true, true, false, false, false, false, false, false, false, false, false, false, false, false, false, false, false] rfl rfl (any_of HT_.out (by kernel_rfl)) (fun _ _ _ h => h) (Or.inl ⟨by rfl, ?_⟩) ?_ ?_
        rotate_left
        · intro w'
          go_simp
          with_reducible rfl
        rotate_left
        · simp only [Act.put, List.setIfInBounds_toArray, List.set_cons_zero, List.set_cons_succ, i64_w, i32_w]
          rfl
        refine pure_ (i := 2) (N := (some 75)) (v := ?_) (a' := ?_) #[true, true, true, false, false, false, false, false, false, false, false, false, false, false, false, false, false] rfl rfl (any_of HT_.out (by kernel_rfl)) (fun _ _ _ h => h) (Or.inl ⟨by rfl, ?_⟩) ?_ ?_
        rotate_left
        · intro w'
          go_simp
          with_reducible rfl
        rotate_left
        · simp only [Act.put, List.setIfInBounds_toArray, List.set_cons_zero, List.set_cons_succ, i64_w, i32_w]
          rfl
        refine pure_ (i := 3) (N := (some 76)) (v := ?_) (a' := ?_) #[true, true, true, true, false, false, false, false, false, false, false, false, false, false, false, false, false] rfl rfl (any_of HT_.out (by kernel_rfl)) (fun _ _ _ h => h) (Or.inl ⟨by rfl, ?_⟩) ?_ ?_
        rotate_left
        · intro w'
          go_simp
          with_reducible rfl
        rotate_left
        · simp only [Act.put, List.setIfInBounds_toArray, List.set_cons_zero, List.set_cons_succ, i64_w, i32_w]
          rfl
        refine pure_ (i := 4) (N := (some 77)) (v := ?_) (a' := ?_) #[true, true, true, true, true, false, false, false, false, false, false, false, false, false, false, false, false] rfl rfl (any_of HT_.out (by kernel_rfl)) (fun _ _ _ h => h) (Or.inl ⟨by rfl, ?_⟩) ?_ ?_
        rotate_left
        · intro w'
          go_simp
          with_reducible rfl
        rotate_left
        · simp only [Act.put, List.setIfInBounds_toArray, List.set_cons_zero, List.set_cons_succ, i64_w, i32_w]
          rfl
        refine pure_ (i := 5) (N := (some 78)) (v := ?_) (a' := ?_) #[true, true, true, true, true, true, false, false, false, false, false, false, false, false, false, false, false] rfl rfl (any_of HT_.out (by kernel_rfl)) (fun _ _ _ h => h) (Or.inl ⟨by rfl, ?_⟩) ?_ ?_
        rotate_left
        · intro w'
          go_simp
          with_reducible rfl
        rotate_left
        · simp only [Act.put, List.setIfInBounds_toArray, List.set_cons_zero, List.set_cons_succ, i64_w, i32_w]
          rfl
        refine pure_ (i := 6) (N := (some 79)) (v := ?_) (a' := ?_) #[true, true, true, true, true, true, true, false, false, false, false, false, false, false, false, false, false] rfl rfl (any_of HT_.out (by kernel_rfl)) (fun _ _ _ h => h) (Or.inl ⟨by rfl, ?_⟩) ?_ ?_
        rotate_left
        · intro w'
          go_simp
          with_reducible rfl
        rotate_left
        · simp only [Act.put, List.setIfInBounds_toArray, List.set_cons_zero, List.set_cons_succ, i64_w, i32_w]
          rfl
        refine pure_ (i := 8) (N := (some 81)) (v := ?_) (a' := ?_) #[true, true, true, true, true, true, true, false, true, false, false, false, false, false, false, false, false] rfl rfl (any_of HT_.out (by kernel_rfl)) (fun _ _ _ h => h) (Or.inl ⟨by rfl, ?_⟩) ?_ ?_
        rotate_left
        · intro w'
          go_simp
          with_reducible rfl
        rotate_left
        · simp only [Act.put, List.setIfInBounds_toArray, List.set_cons_zero, List.set_cons_succ, i64_w, i32_w]
          rfl
        refine take_ (i := 7) (N := (some 80)) (v := ?_) (a' := ?_) #[true, true, true, true, true, true, true, true, true, false, false, false, false, false, false, false, false] rfl rfl (take_ofW HT_.out HW_.out (by kernel_rfl)) (fun _ _ _ h => h) (Or.inl ⟨by rfl, ?_⟩) hHeld ?_ ?_
        rotate_left
        · rintro w' ⟨s3, s7⟩
          go_simp
          with_reducible rfl
        rotate_left
        · simp only [Act.put, List.setIfInBounds_toArray, List.set_cons_zero, List.set_cons_succ, i64_w, i32_w]
          rfl
        refine take_ (i := 9) (N := (some 82)) (v := ?_) (a' := ?_) #[true, true, true, true, true, true, true, true, true, true, false, false, false, false, false, false, false] rfl rfl (take_ofW HT_.out HW_.out (by kernel_rfl)) (fun _ _ _ h => h) (Or.inl ⟨by rfl, ?_⟩) hHeld ?_ ?_
        rotate_left
        · rintro w' ⟨s3, s7⟩
          go_simp
          with_reducible rfl
        rotate_left
        · simp only [Act.put, List.setIfInBounds_toArray, List.set_cons_zero, List.set_cons_succ, i64_w, i32_w]
          rfl
        refine one_ (i := 10) (N := (some 83)) #[true, true, true, true, true, true, true, true, true, true, true, false, false, false, false, false, false] rfl rfl (one_of HT_.out (by kernel_rfl)) (by decide) (fun K hK => ?_)
        refine goesV_ (.tmp 75) Try.func148 (by kernel_rfl) rfl #[.int .i64 x.f3, .int .i64 mk] (by rfl) (by rfl) rfl rfl (by (try simp only [List.map_toArray, List.map_cons, List.map_nil]); first | done | rfl) ?_
        refine (take_is x.f3 mk WD).mono ?_
        rintro e w4 ⟨r4, rfl, hdr⟩
        have hb4 := hdr.below
        have hR4 := (hb4.block _ (Array.getElem?_eq_some_iff.1 HRD.out).1).trans HRD.out
        obtain ⟨y0, y3, yf⟩ := row_c hR4 i HIM.out
        rw [HX.out] at y3
        have hs4 := HSD.out.below hb4
        have y7 := hs4.c7
        have HR4 := Lib.hid hR4
        have HS4 := Lib.hid hs4
        have HB4 := Lib.hid (HBD.out.trans (hb4.mono HBD.out.size))
        clear hdr hb4 hR4 y0 hs4
        refine ⟨_, rfl, ?_⟩
        refine hK.out _ _ ⟨y3, y7⟩ (fun hHeld => ?_)
        clear hK K
        refine norm_ (a' := ?_) ?_ ?_
        rotate_left
        · show Act.put _ (some 83) _ = _
          simp only [Act.put, List.setIfInBounds_toArray, List.set_cons_zero, List.set_cons_succ, i64_w, i32_w]
          rfl
        refine pure_ (i := 11) (N := (some 72)) (v := ?_) (a' := ?_) #[true, true, true, true, true, true, true, true, true, true, true, true, false, false, false, false, false] rfl rfl (any_of HT_.out (by kernel_rfl)) (fun _ _ _ h => h) (Or.inl ⟨by rfl, ?_⟩) ?_ ?_
        rotate_left
        · intro w'
          go_simp
          with_reducible rfl
        rotate_left
        · simp only [Act.put, List.setIfInBounds_toArray, List.set_cons_zero, List.set_cons_succ, i64_w, i32_w]
          rfl
        refine pure_ (i := 12) (N := (some 84)) (v := ?_) (a' := ?_) #[true, true, true, true, true, true, true, true, true, true, true, true, true, false, false, false, false] rfl rfl (any_of HT_.out (by kernel_rfl)) (fun _ _ _ h => h) (Or.inl ⟨by rfl, ?_⟩) ?_ ?_
        rotate_left
        · intro w'
          go_simp
          with_reducible rfl
        rotate_left
        · simp only [Act.put, List.setIfInBounds_toArray, List.set_cons_zero, List.set_cons_succ, i64_w, i32_w]
          rfl
        refine pure_ (i := 13) (N := (some 85)) (v := ?_) (a' := ?_) #[true, true, true, true, true, true, true, true, true, true, true, true, true, true, false, false, false] rfl rfl (any_of HT_.out (by kernel_rfl)) (fun _ _ _ h => h) (Or.inl ⟨by rfl, ?_⟩) ?_ ?_
        rotate_left
        · intro w'
          go_simp
          with_reducible rfl
        rotate_left
        · simp only [Act.put, List.setIfInBounds_toArray, List.set_cons_zero, List.set_cons_succ, i64_w, i32_w]
          rfl
        refine pure_ (i := 14) (N := (some 86)) (v := ?_) (a' := ?_) #[true, true, true, true, true, true, true, true, true, true, true, true, true, true, true, false, false] rfl rfl (any_of HT_.out (by kernel_rfl)) (fun _ _ _ h => h) (Or.inl ⟨by rfl, ?_⟩) ?_ ?_
        rotate_left
        · intro w'
          go_simp
          with_reducible rfl
        rotate_left
        · simp only [Act.put, List.setIfInBounds_toArray, List.set_cons_zero, List.set_cons_succ, i64_w, i32_w]
          rfl
        refine pure_ (i := 15) (N := (some 87)) (v := ?_) (a' := ?_) #[true, true, true, true, true, true, true, true, true, true, true, true, true, true, true, true, false] rfl rfl (any_of HT_.out (by kernel_rfl)) (fun _ _ _ h => h) (Or.inl ⟨by rfl, ?_⟩) ?_ ?_
        rotate_left
        · intro w'
          go_simp
          with_reducible rfl
        rotate_left
        · simp only [Act.put, List.setIfInBounds_toArray, List.set_cons_zero, List.set_cons_succ, i64_w, i32_w]
          rfl
        refine last_ (i := 16) (N := none) #[true, true, true, true, true, true, true, true, true, true, true, true, true, true, true, true, true] rfl rfl (one_of HT_.out (by kernel_rfl)) (by decide) (fun K hK => ?_)
        refine skip_ (w1 := w4.setCell ⟨Q, i * 4 + 3, none⟩ (.int .i64 (takeV x.f3 mk))) (by rfl) rfl ?_ ?_
        · go_simp
          try rfl
        refine hK.out _ _ ?_
        clear hK K
        refine done_ (done_of HT_.out (by kernel_rfl)) ?_
        have HR5 := Lib.hid (row_set HR4.out i HIM.out (takeV x.f3 mk))
        rw [HX.out] at HR5
        have hs5 : StpB (w4.setCell ⟨Q, i * 4 + 3, none⟩ (.int .i64 (takeV x.f3 mk))) p1 ⟨3, F, T, g1, g2, ins, sl, mk⟩ B d := (Below.heap_setCell w4 ⟨Q, i * 4 + 3, none⟩ _ p1 (by have := HQ1.out; show p1 ≠ Q; omega)).trans HS4.out
        have HS5 := Lib.hid hs5
        have HB5 := Lib.hid (HB4.out.setCell (p := ⟨Q, i * 4 + 3, none⟩) HQ.out (.int .i64 (takeV x.f3 mk)))
        clear hs5
        go_wp2
        go_roundg (T - F - (n + 1))
        case measure => (have := HI.out; omega)
        case rel => exact ⟨n + 1, by rw [← Nat.add_assoc, HI.out]; go_num, by have := HI.out; omega, rfl, by rw [HNX.out, HFV.out]; exact HR5, HS5, HB5⟩
      · have HNX : Hid (turnL fv F (n + 1) l = m) := Lib.hid (by rw [hnx]; unfold turnT; rw [if_neg hk, ← hx]; exact List.set_getElem_self him)
        have HI := Lib.hid hi
        clear hset hnx hx hi hm him hml
        go_wp2
        go_roundg (T - F - (n + 1))
        case measure => (have := HI.out; omega)
        case rel => exact ⟨n + 1, by rw [← Nat.add_assoc, HI.out]; go_num, by have := HI.out; omega, rfl, by rw [HNX.out]; exact HR, HS, HB⟩
    · have e : T - F = n := by omega
      have HRR : Hid (turnL fv F n l = r) := Lib.hid (by rw [← e]; exact HRES.out)
      clear e
      go_wp2
      go_ret
      exact ⟨Q, by rw [← HRR.out, HLEN.out]; rfl, HQ.out, by rw [← HRR.out]; exact HR.out, HB.out⟩

end Go.Proofs.Ytmbnjgnmblgjoaa.Man
end

-- StepApply
section
/- step.Apply: what it comes to. -/

namespace Go.Proofs.Ytmbnjgnmblgjoaa.Man
open Go.RowKit Go.Proofs.YtmbnjgnmblgjoaaW.PrintWords Go.Proofs.YtmbnjgnmblgjoaaW.PrintLast Go.Proofs.YtmbnjgnmblgjoaaW.PrintMore
set_option linter.unusedVariables false
set_option linter.unusedSimpArgs false
set_option maxRecDepth 100000

def doL (l : List K.S111) (s : K.S24) : List K.S111 :=
  if s.f0 = 0 then l.take s.f1.toNat ++ (s.f6 ++ l.drop s.f2.toNat)
  else if s.f0 = 1 then l.take s.f1.toNat ++ (s.f6.take s.f5.toNat ++ ((l.take s.f4.toNat).drop s.f3.toNat ++ (s.f6.drop s.f5.toNat ++ l.drop s.f2.toNat)))
  else if s.f0 = 2 then turnL (fun v => addV v s.f7) s.f1.toNat (s.f2.toNat - s.f1.toNat) l
  else turnL (fun v => takeV v s.f7) s.f1.toNat (s.f2.toNat - s.f1.toNat) l
theorem do_is (A : Option Addr) (c : Nat) (l : List K.S111) (B : Option Addr) (d : Nat) (s : K.S24) (w : World) (hr : Kd.C K.k111 w A l.length l) (hc : l.length ≤ c) (hr' : Kd.C K.k111 w B s.f6.length s.f6) (hc' : s.f6.length ≤ d)
    (hs : stepE s = 0) (hT : s.f2 ≤ l.length) (hl : l.length ≤ 2048) : Calls Try.prog 98 #[.slice A l.length c, stpV s B d] w fun e w' => Made w w' e (doL l s) := by
  unfold stepE at hs
  by_cases h1 : 2048 < s.f6.length
  · rw [if_pos h1] at hs; cases hs
  rw [if_neg h1] at hs
  cases hok : stepOk s with
  | false => rw [hok] at hs; cases hs
  | true =>
    obtain ⟨k, f, t, gf, gt, ins, sl, mk⟩ := s
    unfold stepOk at hok
    rw [Bool.and_eq_true, Bool.and_eq_true, decide_eq_true_eq] at hok
    obtain ⟨⟨hf0, hft, ht⟩, hk, _⟩ := hok
    unfold kindOk at hk
    simp only at hf0 hft ht hk hT h1 hr' hc'
    obtain ⟨F, rfl⟩ : ∃ F : Nat, f = (F : Int) := ⟨f.toNat, by omega⟩
    obtain ⟨T, rfl⟩ : ∃ T : Nat, t = (T : Int) := ⟨t.toNat, by omega⟩
    unfold doL
    simp only [Int.toNat_natCast]
    by_cases k1 : k = 1
    · subst k1
      rw [if_pos rfl, decide_eq_true_eq] at hk
      obtain ⟨q1, q2, q3, q4, q5, q6⟩ := hk
      obtain ⟨G, rfl⟩ : ∃ G : Nat, gf = (G : Int) := ⟨gf.toNat, by omega⟩
      obtain ⟨H, rfl⟩ : ∃ H : Nat, gt = (H : Int) := ⟨gt.toNat, by omega⟩
      obtain ⟨I, rfl⟩ : ∃ I : Nat, ins = (I : Int) := ⟨ins.toNat, by omega⟩
      rw [if_neg (by decide), if_pos rfl]
      simp only [Int.toNat_natCast]
      exact do1_is A c l B d F T G H I mk sl w hr hc hr' hc' (by omega) (by omega) (by omega) (by omega) (by omega) hl (by omega)
    · rw [if_neg k1] at hk
      by_cases k0 : k = 0
      · subst k0
        rw [if_pos rfl]
        exact do0_is A c l B d F T gf gt ins mk sl w hr hc hr' hc' (by omega) (by omega) hl (by omega)
      · rw [if_neg k0] at hk
        by_cases k2 : k = 2
        · subst k2
          rw [if_neg (by decide), if_neg (by decide), if_pos rfl]
          exact do2_is A c l B d F T gf gt ins mk sl w hr hc (by omega) (by omega) hl
        · by_cases k3 : k = 3
          · subst k3
            rw [if_neg (by decide), if_neg (by decide), if_neg (by decide)]
            exact do3_is A c l B d F T gf gt ins mk sl w hr hc (by omega) (by omega) hl
          · rw [if_neg (by omega)] at hk; cases hk
theorem do_len (l : List K.S111) (s : K.S24) : (doL l s).length ≤ 3 * l.length + 2 * s.f6.length := by
  unfold doL
  split
  · simp only [List.length_append, List.length_take, List.length_drop]; omega
  · split
    · simp only [List.length_append, List.length_take, List.length_drop]; omega
    · split <;> (rw [turnL_length]; omega)
/-- A step at a document: what comes, and why not. -/
def applyF (l : List K.S111) (s : K.S24) : List K.S111 × Int :=
  if flatC l ≠ 0 then ([], flatC l) else if stepE s ≠ 0 then ([], stepE s) else if (l.length : Int) < s.f2 then ([], 1)
  else if flatC (doL l s) = 0 then (doL l s, 0) else if flatC (doL l s) = 3 then ([], 4) else ([], flatC (doL l s))
/-- Tokens and why not, returned. -/
def Gave (w w' : World) (e : Ending) (r : List K.S111 × Int) : Prop := ∃ A c, e = .returned (.tuple #[.slice A r.1.length c, .int .i64 r.2]) ∧ Kd.C K.k111 w' A r.1.length r.1 ∧ Below w.heap.size w w'
theorem C_none (w : World) : Kd.C K.k111 w none 0 ([] : List K.S111) := ⟨rfl, by omega, fun h => absurd h (by omega)⟩

set_option maxHeartbeats 16000000 in
theorem apply_is (A : Option Addr) (c : Nat) (l : List K.S111) (B : Option Addr) (d : Nat) (s : K.S24) (w : World) (hr : Kd.C K.k111 w A l.length l) (hc : l.length ≤ c) (hr' : Kd.C K.k111 w B s.f6.length s.f6) (hc' : s.f6.length ≤ d) (hl : l.length ≤ 2048) (hf2 : s.f2 < 9223372036854775808) (hf2' : -9223372036854775808 ≤ s.f2) :
    Calls Try.prog 24 #[.slice A l.length c, stpV s B d] w fun e w' => Gave w w' e (applyF l s) := by
  obtain ⟨wB, hwB⟩ : ∃ wB, w.alloc (.cells #[.int .i64 s.f0, .int .i64 s.f1, .int .i64 s.f2, .int .i64 s.f3, .int .i64 s.f4, .int .i64 s.f5, .slice B s.f6.length d, .int .i64 s.f7] 24) = wB := ⟨_, rfl⟩
  have hsb : StpB wB w.heap.size s B d := by rw [← hwB]; exact World.alloc_heap_new w _
  have hbb : Below w.heap.size w wB := by rw [← hwB]; exact (Below.refl _ _).alloc (Nat.le_refl _) _
  have h1 := fcheck_is A c l wB (Kd.C_below hr hbb)
  have hst : ∀ W, Below w.heap.size w W → Calls Try.prog 97 #[stpV s B d] W fun e w' => e = .returned (.int .i64 (stepE s)) ∧ Below W.heap.size W w' := fun W hb => K.step_Check.calls 2060 s.f0 s.f1 s.f2 s.f3 s.f4 s.f5 B d s.f6 s.f7 (stepE s) W (Kd.C_below hr' hb) hc' (step_f s)
  have hdo : stepE s = 0 → s.f2 ≤ l.length → ∀ W, Below w.heap.size w W → Calls Try.prog 98 #[.slice A l.length c, stpV s B d] W fun e w' => Made W w' e (doL l s) := fun h0 h2 W hb => do_is A c l B d s W (Kd.C_below hr hb) hc (Kd.C_below hr' hb) hc' h0 h2 hl
  obtain ⟨R, hR⟩ : ∃ R, applyF l s = R := ⟨_, rfl⟩
  rw [hR]
  unfold applyF at hR
  obtain ⟨E1, hE1⟩ : ∃ E1, flatC l = E1 := ⟨_, rfl⟩
  obtain ⟨E2, hE2⟩ : ∃ E2, stepE s = E2 := ⟨_, rfl⟩
  have hXl : E2 = 0 → (doL l s).length ≤ 1000000 := fun h => by
    have h1 := do_len l s
    rw [h] at hE2
    unfold stepE at hE2
    by_cases h3 : 2048 < s.f6.length
    · rw [if_pos h3] at hE2; cases hE2
    · omega
  obtain ⟨X, hX⟩ : ∃ X, doL l s = X := ⟨_, rfl⟩
  rw [hE1, hE2, hX] at hR
  rw [hE1] at h1
  rw [hE2] at hst hdo
  rw [hX] at hdo hXl
  have HXL := Lib.hid hXl
  have HBW := Lib.hid hwB
  have H1 := Lib.hid h1
  have HST := Lib.hid hst
  have HDO := Lib.hid hdo
  have HS := Lib.hid hsb
  have HB := Lib.hid hbb
  clear hr hr' hwB hsb hbb h1 hst hdo hE1 hE2 hX hXl
  unfold stpV at HST HDO ⊢
  go_enter Try.func24, Try.ntmps24
  go_upto_region 1 with (fail)
  rw [HBW.out]
  obtain ⟨p1, hp1⟩ : ∃ p1 : Nat, w.heap.size = p1 := ⟨_, rfl⟩
  have HP1 := Lib.hid hp1
  rw [hp1] at HS ⊢
  clear hp1 HBW
  go_upto_region 2 with (go_at_call 96; refine H1.out.mono ?_; rintro e w1 ⟨i1, rfl, hb⟩; have HS1 := Lib.hid (HS.out.below hb); have HB1 := Lib.hid (HB.out.trans (hb.mono HB.out.size)); clear hb)
  clear H1 HS HB
  by_cases e1 : E1 = 0
  · subst e1
    rw [if_neg (by simp)] at hR
    have d0 := HS1.out.c0
    have d1 := HS1.out.c1
    have d2 := HS1.out.c2
    have d3 := HS1.out.c3
    have d4 := HS1.out.c4
    have d5 := HS1.out.c5
    have d6 := HS1.out.c6
    have d7 := HS1.out.c7
    go_upto_region 5 with (go_at_call 97; refine (HST.out _ HB1.out).mono ?_; rintro e w2 ⟨rfl, hb⟩; have HS2 := Lib.hid (HS1.out.below hb); have HB2 := Lib.hid (HB1.out.trans (hb.mono HB1.out.size)); clear hb)
    clear d0 d1 d2 d3 d4 d5 d6 d7 HS1 HB1
    by_cases e2 : E2 = 0
    · subst e2
      rw [if_neg (by simp)] at hR
      have HXM : Hid (X.length ≤ 1000000) := Lib.hid (HXL.out rfl)
      have d2 := HS2.out.c2
      by_cases hlt : (l.length : Int) < s.f2
      · rw [if_pos hlt] at hR
        subst hR
        go_wp2
        go_ret2
        exact ⟨none, 0, rfl, C_none _, HB2.out⟩
      · rw [if_neg hlt] at hR
        have HR := Lib.hid hR
        clear hR
        have HO := Lib.hid (HDO.out rfl (by omega) w2 HB2.out)
        clear HDO HST
        have d0 := HS2.out.c0
        have d1 := HS2.out.c1
        have d3 := HS2.out.c3
        have d4 := HS2.out.c4
        have d5 := HS2.out.c5
        have d6 := HS2.out.c6
        have d7 := HS2.out.c7
        go_upto_region 10 with (go_at_call 98; refine HO.out.mono ?_; rintro e w3 ⟨Q, rfl, hQ, hrow, hb⟩; have HRW := Lib.hid hrow; have HB3 := Lib.hid (HB2.out.trans (hb.mono HB2.out.size)); clear hQ hrow hb)
        clear d0 d1 d2 d3 d4 d5 d6 d7 HS2 HB2 HO hlt
        have hCX : Kd.C K.k111 w3 (some ⟨Q, 0, none⟩) X.length X := C_of_block HRW.out (by have := HXM.out; omega)
        have HF := Lib.hid (fcheck_is (some ⟨Q, 0, none⟩) X.length X w3 hCX)
        have HCX := Lib.hid hCX
        obtain ⟨E3, hE3⟩ : ∃ E3, flatC X = E3 := ⟨_, rfl⟩
        rw [hE3] at HR HF
        clear hCX HRW HXM HXL hE3
        go_upto_region 11 with (go_at_call 96; refine HF.out.mono ?_; rintro e w4 ⟨i4, rfl, hb⟩; have HCX4 := Lib.hid (Kd.C_below HCX.out hb); have HB4 := Lib.hid (HB3.out.trans (hb.mono HB3.out.size)); clear hb)
        clear HF HCX HB3
        by_cases e3 : E3 = 0
        · subst e3
          have hR := HR.out
          rw [if_pos rfl] at hR
          subst hR
          clear HR
          go_wp2
          go_ret2
          exact ⟨some ⟨Q, 0, none⟩, X.length, rfl, HCX4.out, HB4.out⟩
        · by_cases e4 : E3 = 3
          · subst e4
            have hR := HR.out
            rw [if_neg (by decide), if_pos rfl] at hR
            subst hR
            clear HR
            go_wp2
            go_ret2
            exact ⟨none, 0, rfl, C_none _, HB4.out⟩
          · have hR := HR.out
            rw [if_neg e3, if_neg e4] at hR
            subst hR
            clear HR
            go_wp2
            go_ret2
            exact ⟨none, 0, rfl, C_none _, HB4.out⟩
    · rw [if_pos e2] at hR
      subst hR
      go_wp2
      go_ret2
      exact ⟨none, 0, rfl, C_none _, HB2.out⟩
  · rw [if_pos e1] at hR
    subst hR
    go_wp2
    go_ret2
    exact ⟨none, 0, rfl, C_none _, HB1.out⟩
end Go.Proofs.Ytmbnjgnmblgjoaa.Man
end

-- Whole
section
/- WholeSent: a step that is written, and read, does what it did. -/


namespace Go.Proofs.Ytmbnjgnmblgjoaa.Man
open Go.RowKit Go.Proofs.YtmbnjgnmblgjoaaW.PrintWords Go.Proofs.YtmbnjgnmblgjoaaW.PrintLast Go.Proofs.YtmbnjgnmblgjoaaW.PrintMore
set_option linter.unusedVariables false
set_option linter.unusedSimpArgs false
set_option maxRecDepth 100000
section
attribute [local go_sem high] K.eqA111
set_option maxHeartbeats 4000000 in
theorem alike25_yes (w : World) (A B : Option Addr) (c d : Nat) (l : List K.S111) (hr : Kd.C K.k111 w A l.length l) (hr' : Kd.C K.k111 w B l.length l) :
    Calls Try.prog 25 #[.slice A l.length c, .slice B l.length d] w fun e w' => e = .returned (.bool true) ∧ Below w.heap.size w w' := by
  have hl : l.length ≤ 9223372036854775807 := hr.2.1
  have HR := Lib.hid hr
  have HR' := Lib.hid hr'
  clear hr hr'
  go_enter Try.func25, Try.ntmps25
  go_wp2
  go_loopg [5] l.length (fun g s5 wr => ∃ i m : Nat, s5 = .int .i64 i ∧ i ≤ l.length ∧ g = l.length - i ∧ wr = w.drewN m)
  case atStart => exact ⟨0, 0, rfl, Nat.zero_le _, rfl, rfl⟩
  case round =>
    obtain ⟨i, m, rfl, hi, hg, rfl⟩ := hrel
    by_cases hlt : i < l.length
    · obtain ⟨ad, e1, a0, a1, a2, a3⟩ := K.at_T111 HR.out (i : Int) (by omega) (by omega)
      obtain ⟨ad', e2, b0, b1, b2, b3⟩ := K.at_T111 HR'.out (i : Int) (by omega) (by omega)
      subst e1; subst e2
      rw [Int.toNat_natCast] at a0 a1 a2 a3 b0 b1 b2 b3
      generalize K.rd_T111 l i = x at a0 a1 a2 a3 b0 b1 b2 b3
      go_wp2
      go_quiet (fail)
      go_wp2
      go_roundg (l.length - (i + 1))
      case measure => omega
      case rel => exact ⟨i + 1, _, by go_num, by omega, rfl, rfl⟩
    · obtain rfl : i = l.length := by omega
      go_wp2
      go_ret
      exact ⟨rfl, pw_below_drewN (Below.refl _ _) m⟩
end
def runeX : K.S111 := ⟨0, 0, 120, 0⟩
def stepX : K.S24 := ⟨0, 0, 0, 0, 0, 0, [runeX], 0⟩
theorem apply_x : applyF [] stepX = ([runeX], 0) := by
  have h1 : rightB runeX = true := by decide
  have h2 : stepE stepX = 0 := by unfold stepE stepOk kindOk stepX; simp [h1]; decide
  have h3 : doL [] stepX = [runeX] := by simp [doL, stepX]
  have h4 : flatC [runeX] = 0 := by
    unfold flatC flatLoop
    rw [h1]
    simp [runeX, flatLoop]
  have h5 : flatC [] = 0 := by simp [flatC, flatLoop]
  unfold applyF
  rw [h5, h2, h3, h4, if_neg (by decide), if_neg (by decide), if_neg (by decide), if_pos rfl]
set_option maxHeartbeats 8000000 in
theorem awake20_is (w : World) : Calls Try.prog 20 #[] w fun e w' => e = .returned (.bool true) ∧ Below w.heap.size w w' := by
  have hbb : Below w.heap.size w (w.alloc (.cells #[.int .i64 0, .int .i64 0, .int .i64 120, .int .i64 0] 111)) := (Below.refl _ _).alloc (Nat.le_refl _) _
  have hC : Kd.C K.k111 (w.alloc (.cells #[.int .i64 0, .int .i64 0, .int .i64 120, .int .i64 0] 111)) (some ⟨w.heap.size, 0, none⟩) [runeX].length [runeX] := C_of_block (by exact World.alloc_heap_new w _) (by simp)
  have h := apply_is none 0 [] (some ⟨w.heap.size, 0, none⟩) 1 stepX _ (C_none _) (Nat.le_refl _) hC (by simp [stepX]) (by simp) (by simp [stepX]) (by simp [stepX])
  rw [apply_x] at h
  unfold stpV stepX at h
  simp only [List.length_cons, List.length_nil] at h
  have H := Lib.hid h
  have HB := Lib.hid hbb
  clear h hC hbb
  go_enter Try.func20, Try.ntmps20
  go_wp2_with (go_at_call 24; refine H.out.mono ?_; rintro e w1 ⟨A1, c1, rfl, hc1, hb⟩; have HB1 := Lib.hid (HB.out.trans (hb.mono HB.out.size)); clear hc1 hb)
  go_ret
  exact ⟨rfl, HB1.out⟩

theorem two_le {x : K.S26} (h : entryE x = 0) : 0 ≤ x.f2.f2 ∧ x.f2.f2 ≤ 2048 := by
  unfold entryE at h
  split at h
  · cases h
  unfold stepE at h
  split at h
  · cases h
  split at h
  · rename_i hok
    unfold stepOk at hok
    rw [Bool.and_eq_true, decide_eq_true_eq] at hok
    omega
  · cases h
set_option maxHeartbeats 16000000 in
theorem whole_walk (A : Option Addr) (c : Nat) (l : List K.S111) (A2 : Option Addr) (c2 : Nat) (x : K.S26) (w : World) (hr : Kd.C K.k111 w A l.length l) (hc : l.length ≤ c) (hr2 : Kd.C K.k111 w A2 x.f2.f6.length x.f2.f6) (hc2 : x.f2.f6.length ≤ c2) :
    Calls Try.prog 3 #[.slice A l.length c, entV x A2 c2] w fun e w' => e = .returned (.bool true) ∧ Below w.heap.size w w' := by
  have hl63 : l.length ≤ 9223372036854775807 := hr.2.1
  obtain ⟨wB, hwB⟩ : ∃ wB, w.alloc (entO x A2 c2) = wB := ⟨_, rfl⟩
  have heb : EntAt wB w.heap.size x A2 c2 := by rw [← hwB]; exact World.alloc_heap_new w _
  have hbb : Below w.heap.size w wB := by rw [← hwB]; exact (Below.refl _ _).alloc (Nat.le_refl _) _
  have hD := putEntry_is x A2 c2 wB (Kd.C_below hr2 hbb) hc2
  have hap : ∀ (W : World) (B : Option Addr) (d : Nat), Below w.heap.size w W → Kd.C K.k111 W B x.f2.f6.length x.f2.f6 → x.f2.f6.length ≤ d → entryE x = 0 → l.length ≤ 300 → Calls Try.prog 24 #[.slice A l.length c, stpV x.f2 B d] W fun e w' => Gave W w' e (applyF l x.f2) := fun W B d hb hC hd h0 hl => apply_is A c l B d x.f2 W (Kd.C_below hr hb) hc hC hd (by omega) (by have := two_le h0; omega) (by have := two_le h0; omega)
  obtain ⟨R, hR⟩ : ∃ R, applyF l x.f2 = R := ⟨_, rfl⟩
  rw [hR] at hap
  obtain ⟨E, hE⟩ : ∃ E, entryE x = E := ⟨_, rfl⟩
  have HE := Lib.hid hE
  rw [hE] at hD hap
  have HBW := Lib.hid hwB
  have HD := Lib.hid hD
  have HAP := Lib.hid hap
  have HEB := Lib.hid heb
  have HB := Lib.hid hbb
  have HC2 := Lib.hid hr2
  clear hr hr2 hwB heb hbb hD hap hE hR
  unfold stpV at HAP
  unfold entO at HBW
  go_enter Try.func3, Try.ntmps3
  go_upto_region 1 with (fail)
  rw [HBW.out]
  obtain ⟨p1, hp1⟩ : ∃ p1 : Nat, w.heap.size = p1 := ⟨_, rfl⟩
  have HP1 := Lib.hid hp1
  rw [hp1] at HEB ⊢
  clear hp1 HBW
  obtain ⟨q0, q1, q2, q3, q4, q5, q6, q7, q8, q9⟩ := HEB.out.c
  go_upto_region 2 with (go_at_call 19; refine HD.out.mono ?_; rintro e w1 ⟨v, rfl, hr, hb⟩; obtain ⟨A3, k3, rfl, hk3, hC⟩ := BR.len hr; have HR1 := Lib.hid hC; have HK1 := Lib.hid hk3; have HE1 := Lib.hid (HEB.out.below hb); have HB1 := Lib.hid (HB.out.trans (hb.mono HB.out.size)); clear hr hb hC hk3)
  clear q0 q1 q2 q3 q4 q5 q6 q7 q8 q9 HEB HB HD
  have HAW := Lib.hid (fun (W : World) (hb : Below w.heap.size w W) => (awake20_is W).mono fun e w' h => (show e = .returned (.bool true) ∧ Below w.heap.size w w' from ⟨h.1, hb.trans (h.2.mono hb.size)⟩))
  by_cases e1 : E = 0
  · by_cases hl : 300 < l.length
    · go_wp2_with (go_at_call 20; refine (HAW.out _ HB1.out).mono ?_; rintro e w2 ⟨rfl, hb⟩; have HB2 := Lib.hid hb; clear hb)
      go_ret
      exact ⟨rfl, HB2.out⟩
    · subst e1
      obtain ⟨b, hb⟩ : ∃ b, (putEntryF x).1 = b := ⟨_, rfl⟩
      have hbe : b = entryB x := by rw [← hb]; unfold putEntryF; simp only; rw [HE.out, if_pos rfl]
      rw [hb] at HR1 HK1 ⊢
      have hBB : areBytesN b = true := by rw [hbe]; exact entryB_bytes x
      have hG : getEntryF b = (x, 0) := by rw [hbe]; exact getEntry_put HE.out
      have HWR := Lib.hid (wrap_any A3 k3 b w1 HR1.out hBB)
      have HBB := Lib.hid hBB
      have HG := Lib.hid hG
      have HBE := Lib.hid hbe
      have hl2 : l.length ≤ 300 := by omega
      clear hb hbe hBB hG hl
      by_cases hbig : 65536 < b.length
      · have hw : wrapF b = ([], 2) := by unfold wrapF; rw [if_pos hbig]
        rw [hw] at HWR
        clear hw
        go_wp2_with (first
          | (go_at_call 21; refine HWR.out.mono ?_; rintro e w2 ⟨v, rfl, hr, hb⟩; have HB2 := Lib.hid (HB1.out.trans (hb.mono HB1.out.size)); clear hr hb)
          | (go_at_call 20; refine (HAW.out _ HB2.out).mono ?_; rintro e w3 ⟨rfl, hb⟩; have HB3 := Lib.hid hb; clear hb))
        go_ret
        exact ⟨rfl, HB3.out⟩
      · have hw : wrapF b = (frameF b, 0) := by unfold wrapF; rw [if_neg hbig]
        rw [hw] at HWR
        have ho : openF (frameF b) 0 = (b, ((frameF b).length : Int), 0) := by have := openF_frame b [] HBB.out (by omega); rwa [List.append_nil] at this
        have hfl : (frameF b).length ≤ 140737488355328 := by have := frameF_length b; have := vb_le_ten (n := b.length) (by omega); omega
        have hfb : areBytesN (frameF b) = true := frameF_bytes b HBB.out
        obtain ⟨f, hf⟩ : ∃ f, frameF b = f := ⟨_, rfl⟩
        rw [hf] at HWR ho hfl hfb
        have HOF := Lib.hid ho
        have HFL := Lib.hid hfl
        have HFB := Lib.hid hfb
        clear hw ho hfl hfb hf hbig
        go_upto_region 7 with (go_at_call 21; refine HWR.out.mono ?_; rintro e w2 ⟨v, rfl, hr, hb⟩; obtain ⟨A4, k4, rfl, hk4, hC⟩ := BR.len hr; have HR2 := Lib.hid hC; have HK2 := Lib.hid hk4; have HE2 := Lib.hid (HE1.out.below hb); have HB2 := Lib.hid (HB1.out.trans (hb.mono HB1.out.size)); clear hr hb hC hk4)
        clear HE1 HB1 HWR HR1 HK1
        have HO := Lib.hid (open_any A4 k4 f 0 w2 HR2.out HK2.out HFB.out HFL.out)
        rw [HOF.out] at HO
        go_upto_region 8 with (go_at_call 22; refine HO.out.mono ?_; rintro e w3 ⟨v, rfl, hr, hb⟩; obtain ⟨A5, k5, rfl, hk5, hC⟩ := BR.len hr; have HR3 := Lib.hid hC; have HK3 := Lib.hid hk5; have HE3 := Lib.hid (HE2.out.below hb); have HB3 := Lib.hid (HB2.out.trans (hb.mono HB2.out.size)); clear hr hb hC hk5)
        clear HE2 HB2 HO HR2 HK2 HOF HFL HFB
        have HGE := Lib.hid (getEntry_is w3 A5 k5 b HR3.out HK3.out HBB.out)
        rw [HG.out] at HGE
        go_upto_region 9 with (go_at_call 23; refine HGE.out.mono ?_; rintro e w4 ⟨v, rfl, ⟨u, rfl, hr⟩, hb⟩; obtain ⟨A7, k7, rfl, l7, hC⟩ := TR.C hr; have HC4 := Lib.hid hC; have HK4 := Lib.hid l7; have HE4 := Lib.hid (HE3.out.below hb); have HB4 := Lib.hid (HB3.out.trans (hb.mono HB3.out.size)); clear hr hb hC l7)
        clear HE3 HB3 HGE HR3 HK3 HG HBE HBB
        obtain ⟨w5, hw5⟩ : ∃ w5, w4.alloc (entO x A7 k7) = w5 := ⟨_, rfl⟩
        have hb5 : Below w4.heap.size w4 w5 := by rw [← hw5]; exact (Below.refl _ _).alloc (Nat.le_refl _) _
        have HY5 : Hid (EntAt w5 w4.heap.size x A7 k7) := Lib.hid (by rw [← hw5]; exact World.alloc_heap_new w4 _)
        have HE5 := Lib.hid (HE4.out.below hb5)
        have HC5 := Lib.hid (Kd.C_below HC4.out hb5)
        have HB5 := Lib.hid (HB4.out.trans (hb5.mono HB4.out.size))
        unfold entO at hw5
        rw [hw5]
        clear hw5 hb5 HE4 HC4 HB4
        obtain ⟨p2, hp2⟩ : ∃ p2 : Nat, w4.heap.size = p2 := ⟨_, rfl⟩
        rw [hp2] at HY5 ⊢
        clear hp2
        obtain ⟨q0, q1, q2, q3, q4, q5, q6, q7, q8, q9⟩ := HE5.out.c
        obtain ⟨y0, y1, y2, y3, y4, y5, y6, y7, y8, y9⟩ := HY5.out.c
        go_upto_region 11 with (fail)
        have HO1 := Lib.hid (HAP.out w5 A2 c2 HB5.out (Kd.C_below HC2.out HB5.out) hc2 trivial hl2)
        go_upto_region 12 with (go_at_call 24; refine HO1.out.mono ?_; rintro e w6 ⟨A8, k8, rfl, hC, hb⟩; have HC6 := Lib.hid hC; have HY6 := Lib.hid (HY5.out.below hb); have HD6 := Lib.hid (Kd.C_below HC5.out hb); have HB6 := Lib.hid (HB5.out.trans (hb.mono HB5.out.size)); clear hC hb)
        clear q0 q1 q2 q3 q4 q5 q6 q7 q8 q9 y0 y1 y2 y3 y4 y5 y6 y7 y8 y9 HE5 HY5 HC5 HO1
        obtain ⟨y0, y1, y2, y3, y4, y5, y6, y7, y8, y9⟩ := HY6.out.c
        have HO2 := Lib.hid (HAP.out w6 A7 k7 HB6.out HD6.out HK4.out trivial hl2)
        go_upto_region 13 with (go_at_call 24; refine HO2.out.mono ?_; rintro e w7 ⟨A9, k9, rfl, hC, hb⟩; have HC7 := Lib.hid (Kd.C_below HC6.out hb); have HD7 := Lib.hid hC; have HB7 := Lib.hid (HB6.out.trans (hb.mono HB6.out.size)); clear hC hb)
        clear y0 y1 y2 y3 y4 y5 y6 y7 y8 y9 HY6 HC6 HD6 HO2 HAP
        obtain ⟨R1, R2⟩ := R
        simp only at HC7 HD7 ⊢
        have HAL := Lib.hid (alike25_yes w7 A8 A9 k8 k9 R1 HC7.out HD7.out)
        go_wp2_with (first
          | (go_at_call 25; refine HAL.out.mono ?_; rintro e w8 ⟨rfl, hb⟩; have HB8 := Lib.hid (HB7.out.trans (hb.mono HB7.out.size)); clear hb)
          | (go_at_call 20; refine (HAW.out _ HB8.out).mono ?_; rintro e w9 ⟨rfl, hb⟩; have HB9 := Lib.hid hb; clear hb))
        go_ret
        exact ⟨rfl, HB9.out⟩
  · go_wp2_with (go_at_call 20; refine (HAW.out _ HB1.out).mono ?_; rintro e w2 ⟨rfl, hb⟩; have HB2 := Lib.hid hb; clear hb)
    go_ret
    exact ⟨rfl, HB2.out⟩
theorem whole_row (A1 : Option Addr) (c1 : Nat) (l : List K.S111) (x : K.S26) (cs : Array Value) (w : World)
    (hr1 : Kd.C K.k111 w A1 l.length l) (hc1 : l.length ≤ c1) (_ : True) (hx : K.k26.K w x cs.toList) (_ : True) :
    Calls Try.prog 3 #[.slice A1 l.length c1, .agg cs] w fun e w' => e = .returned (.bool true) ∧ Below w.heap.size w w' := by
  obtain ⟨A2, c2, ex, l2, g2⟩ := K.k26_open hx
  obtain rfl : cs = #[.int .i64 x.f0, .int .i64 x.f1, .int .i64 x.f2.f0, .int .i64 x.f2.f1, .int .i64 x.f2.f2, .int .i64 x.f2.f3, .int .i64 x.f2.f4, .int .i64 x.f2.f5, .slice A2 x.f2.f6.length c2, .int .i64 x.f2.f7] := by cases cs; simp only at ex; rw [ex]
  exact whole_walk A1 c1 l A2 c2 x w hr1 hc1 g2 l2
end Go.Proofs.Ytmbnjgnmblgjoaa.Man
end

-- LawWholeSent
section
-- Written by a program of this session (wip/tools/row5.py). Not trusted: Lean checks it.











namespace Go.Proofs.Ytmbnjgnmblgjoaa.wholeSent
open Go.ChangeShapes Go.WideShapes Go.ChangeAt Go.RowKit Go.Proofs.Ytmbnjgnmblgjoaa.Open
open Go.ChangeMaps (open_string shut_string)
set_option linter.unusedVariables false
theorem own : ownKnob Try.prog.godebug = none := by kernel_rfl
theorem laidOut : laidOutB Try.prog = true := by kernel_rfl
set_option maxRecDepth 100000 in
theorem lifted (os : Os) (started : os.Started) (H : Type) (enc : TypeId × Value → H) :
    ReturnsInHanded {} Try.checked os 3 .any (Rows.wholeSentSpec.pre6 enc Try.prog Try.f3 Rows.wholeSentRow.domain false) (Rows.wholeSentSpec.post enc Try.prog Try.f3 false true false false) := by
  refine returnsInHanded_of_change_sized (C := Try.checked) own started (by kernel_rfl) Try.func3
    (ChangeSpec.witness6 (enc := enc) (C := Try.checked) false ⟨#[], #[.slice none 0 0, .agg #[.int .i64 0, .int .i64 0, .int .i64 0, .int .i64 0, .int .i64 0, .int .i64 0, .int .i64 0, .int .i64 0, .slice none 0 0, .int .i64 0]], []⟩ 12 (by kernel_rfl) (by kernel_rfl) (by kernel_rfl) (by kernel_rfl)) ?_
  intro W base args ds gs before hval0 hW hcnd hsz0 _
  have hsz : (DataW.weightsEach Try.prog (Try.f3.params.toList ++ Rows.wholeSentSpec.plain.varTypes Try.prog) (ds ++ gs)).all (· ≤ reachBytes) = true := hsz0
  have hval : ∀ (j : Nat) t v, Try.f3.params[j]? = some t → args[j]? = some v → Value.okWide Try.prog W .any base t v := hval0
  have hW' := hW
  obtain ⟨p, q, hA0, hV, rfl, hfz, hnd⟩ := hW
  have hA : DataW.TrodAll enc Try.prog W 0 (fun _ => true) true Try.f3.params.toList args.toList ds p := hA0
  rw [Try.params3] at hA hval hsz
  obtain ⟨v0, vs0, d0, ds0, p0, q0, hargs, rfl, rfl, h0, r0⟩ := trodAll_cons hA
  obtain ⟨v1, vs1, d1, ds1, p1, q1, rfl, rfl, rfl, h1, r1⟩ := trodAll_cons r0
  obtain ⟨rfl, rfl, rfl⟩ := trodAll_nil r1
  obtain rfl : args = #[v0, v1] := by cases args; simp_all
  obtain ⟨rfl, rfl⟩ := trodVars_none hV
  obtain ⟨a0, len0, cap0, rfl⟩ := okWide_slice Try.underlying22 (hval 0 22 v0 rfl rfl)
  obtain ⟨z0, rfl, c0, k0, w0, b0⟩ := Opens.slice_arg opens_toks hsz (j := 0) (t := 22) rfl rfl h0
  have kt0 := h0
  have lt0 : ∀ x ∈ p0, x.block < W.heap.size := by obtain ⟨m, hm⟩ := kt0; exact DataW.trod_lt m _ _ _ hm
  obtain ⟨cs1, rfl, sz1⟩ := okWide_struct Try.underlying26 (hval 1 26 v1 rfl rfl)
  obtain ⟨z1, k1, w1, b1⟩ := Opens.arg opens_entry hsz (j := 1) (t := 26) rfl rfl h1
  rw [show Value.cells (.agg cs1) = cs1 from rfl] at k1
  have kt1 := h1
  have lt1 : ∀ x ∈ p1, x.block < W.heap.size := by obtain ⟨m, hm⟩ := kt1; exact DataW.trod_lt m _ _ _ hm
  clear hA0 hval0 hsz0 hsz
  refine (Man.whole_row a0 cap0 z0 z1 cs1 W k0 c0 w0 k1 w1).mono fun e W' ⟨he, bel⟩ => ?_
  subst he
  exact ⟨_, rfl, _, _, _, [], _, [], hW', trodAll_mk1 (shut_bool Try.underlying4 _), (trodAll_cons_mk (Below.trod laidOut (by kernel_rfl) (of_decide_eq_true (by kernel_rfl)) kt0 bel lt0) (trodAll_cons_mk (Below.trod laidOut (by kernel_rfl) (of_decide_eq_true (by kernel_rfl)) kt1 bel lt1) trodAll_mk0)), rfl, bel.frame _, fun h => by cases h⟩
theorem over : Rows.wholeSentRow.holds Try.pinned (OpenSpec.ofChange Rows.wholeSentSpec) :=
  OpenClaim.holds_of_wide 3 Try.f3 rfl rfl rfl rfl rfl rfl rfl ⟨rfl, rfl, rfl, rfl, rfl⟩ rfl rfl rfl rfl rfl (by kernel_rfl) Try.func3 (by kernel_rfl)
    (of_decide_eq_true (by kernel_rfl)) (by unfold Func.isWrapper; first | (rw [if_pos (by decide +kernel)]; kernel_rfl) | (rw [if_neg (by decide +kernel)]; exact ⟨rfl, rfl⟩))
    (fun os started H enc _ => lifted os started H enc)
theorem proved : Rows.WholeSentSaid := over
#print axioms proved
end Go.Proofs.Ytmbnjgnmblgjoaa.wholeSent
namespace Go.Proofs.Ytmbnjgnmblgjoaa
/-- The row, under a short name, for the claim. -/
theorem wholeSent_holds : Rows.WholeSentSaid := wholeSent.proved
end Go.Proofs.Ytmbnjgnmblgjoaa
end
