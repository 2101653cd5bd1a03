/- JournalPlays (Upto): any acts (Append, Sync, Crash, Cut) on a journal over a disk that held any bytes tell, act by act, what the document's journal tells. Conditions: the statement's own, no others. -/
-- Laid together by a program of this session (wip/tools/shake.py). Not trusted: Lean checks it.
import Derived.Test.YtmbnjgnmblgjoaaJp6
section
namespace Go.Proofs.Ytmbnjgnmblgjoaa.Man
open Go.RowKit Go.Shelf Go.Proofs.YtmbnjgnmblgjoaaW.PrintWords Go.Proofs.YtmbnjgnmblgjoaaW.PrintLast Go.Proofs.YtmbnjgnmblgjoaaW.PrintMore
set_option linter.unusedVariables false
set_option linter.unusedSimpArgs false
set_option maxRecDepth 100000
def jpl15.T : Bool × List (List Nat × List Nat) := (true, [([], []), ([], []), ([], []), ([1, 2], [1, 2]), ([3], [3]), ([0, 4], [0, 4]), ([], []), ([], []), ([], []), ([7, 8], [7, 8]), ([9], [9]), ([6, 10, 5], [6, 10]), ([5, 11], [5, 11])])
def jpl15.B : List Nat := [0, 0, 0, 6, 14, 31, 0, 0, 0, 384, 896, 2047, 4095]
theorem jpl15.tab : rtab .any (opsOf Try.f18 15) = jpl15.T := by kernel_rfl
theorem jpl15.bits : waitsOk jpl15.T.2 jpl15.B = true := by kernel_rfl
def jpl18.T : Bool × List (List Nat × List Nat) := (true, [([], []), ([], []), ([], []), ([1, 2], [1, 2]), ([3], [3]), ([0, 4], [0, 4]), ([], []), ([], []), ([], []), ([7, 8], [7, 8]), ([9], [9]), ([6, 10, 5], [6, 10]), ([5, 11], [5, 11])])
def jpl18.B : List Nat := [0, 0, 0, 6, 14, 31, 0, 0, 0, 384, 896, 2047, 4095]
theorem jpl18.tab : rtab .any (opsOf Try.f18 18) = jpl18.T := by kernel_rfl
theorem jpl18.bits : waitsOk jpl18.T.2 jpl18.B = true := by kernel_rfl
def jpl32.T : Bool × List (List Nat × List Nat) := (true, [([], []), ([0], [0]), ([], []), ([2], [2]), ([3], [3]), ([4], [4]), ([5], [5]), ([1, 6], [1, 6]), ([7, 1], [7]), ([8], [8]), ([9, 8, 8], [8, 9]), ([8], [8]), ([11, 10, 8], [8, 11]), ([10, 12, 8], [8, 10, 12]), ([8, 13], [8, 13]), ([14, 12], [14]), ([15], [15]), ([16, 15, 15], [15, 16]), ([17, 17, 15], [15, 17]), ([18, 15], [15, 18]), ([15], [15]), ([20, 15], [15, 20]), ([21, 15], [15, 21]), ([22, 15], [15, 22]), ([23, 15], [15, 23]), ([19, 24, 15], [15, 19, 24]), ([15, 25], [15, 25]), ([26, 18], [26]), ([27], [27]), ([28, 27, 27], [27, 28]), ([29, 29, 27], [27, 29]), ([27], [27]), ([31, 27], [27, 31]), ([32, 27], [27, 32]), ([33, 27], [27, 33]), ([30, 34, 27], [27, 30, 34]), ([27, 35], [27, 35])])
def jpl32.B : List Nat := [0, 1, 0, 4, 12, 28, 60, 127, 255, 511, 1023, 511, 4095, 8191, 16383, 32767, 65535, 131071, 262143, 524287, 65535, 1114111, 3211263, 7405567, 15794175, 33554431, 67108863, 134217727, 268435455, 536870911, 1073741823, 268435455, 2415919103, 6710886399, 15300820991, 34359738367, 68719476735]
theorem jpl32.tab : rtab .any (opsOf Try.f18 32) = jpl32.T := by kernel_rfl
theorem jpl32.bits : waitsOk jpl32.T.2 jpl32.B = true := by kernel_rfl
set_option maxHeartbeats 8000000 in
theorem jplays_bad (A0 : Option Addr) (n0 c0 : Nat) (most : Int) (A1 : Option Addr) (n1 c1 : Nat) (A2 : Option Addr) (n2 c2 : Nat) (A3 : Option Addr) (n3 c3 : Nat) (w : World) (hm : most < 0 ∨ 262144 < most) :
 Calls Try.prog 18 #[.slice A0 n0 c0, .int .i64 most, .slice A1 n1 c1, .slice A2 n2 c2, .slice A3 n3 c3] w fun e w' => e = .returned (.bool true) ∧ Below w.heap.size w w' := by
 have HM := Lib.hid hm
 clear hm
 go_enter Try.func18, Try.ntmps18
 go_wp2_with (first
  | (go_at_call 26; refine (new_bad _ _ HM.out).mono ?_; rintro e w1 ⟨rfl, rfl⟩)
  | (go_at_call 27; refine (refNew_bad _ _ HM.out).mono ?_; rintro e w1 ⟨rfl, rfl⟩)
  | (go_at_call 71; refine (awake18_is _).mono ?_; rintro e w2 ⟨rfl, hb⟩; have HBA := Lib.hid hb; clear hb))
 go_ret
 exact ⟨rfl, HBA.out⟩
theorem JS.otherRef {w w1 : World} {base J D D' : Nat} {vE v u u' : Value} {es b b' : List Int} {s m s' m' : Int} (h : JS w base J D vE v es b s m) (k : RefS w base D' u b' s' m') (st : DStep w w1 D' u u') (ha : Apart v u) : JS w1 base J D vE v es b s m := by
 refine h.move ?_ ?_ ?_
 · exact st.block _ h.lt (cells_ne (show w.heap[J]? = _ from h.jat) (show w.heap[D']? = _ from k.cells) (by decide)) (own_ne k.row (show w.heap[J]? = _ from h.jat) (by decide))
 · intro i hi
   obtain ⟨_, cs, hc⟩ := h.typ i hi
   exact st.block _ (h.elt i hi) (cells_ne hc (show w.heap[D']? = _ from k.cells) (by decide)) (own_ne k.row hc (by decide))
 · refine { h.disk with cells := h.disk.cells.move (st.block _ h.disk.cells.lt (cells_ne (show w.heap[D]? = _ from h.disk.cells) (show w.heap[D']? = _ from k.cells) (by decide)) (own_ne k.row (show w.heap[D]? = _ from h.disk.cells) (by decide))), row := h.disk.row.move fun i hi => ?_ }
   obtain ⟨_, hlt, cur, hc⟩ := h.disk.row.block hi
   exact st.block _ hlt (cells_ne hc (show w.heap[D']? = _ from k.cells) (by decide)) (fun e => ha i hi e.symm)
theorem app_bytes (m : Int) (b : List Int) (h : areBytesN b = true) : areBytesN (appL m [] b) = true := by
 unfold appL; split
 · simpa using h
 · rfl
theorem at_ents {w : World} {A : Option Addr} {n : Nat} {ps : List (List K.S26)} (h : Kd.C (Kd.slice 26 K.k26) w A n ps) (i : Nat) (hi : i < n) :
 ∃ ad Ap cp, A = some ad ∧ w.cell? (ad.add i) = some (.slice Ap (ps.getD i []).length cp) ∧ (ps.getD i []).length ≤ cp ∧ Kd.C K.k26 w Ap (ps.getD i []).length (ps.getD i []) := by
 obtain ⟨ad, c, e, hl, hk, hc⟩ := Kd.C_get h [] (i : Int) (by omega) (by omega)
 rw [Int.toNat_natCast] at hk hc
 obtain ⟨Ap, cp, rfl, hcp, hr⟩ := hk
 exact ⟨ad, Ap, cp, e, by simpa [Kd.slice] using hc 0 _ rfl, hcp, hr⟩
theorem C_nil26 (w : World) : Kd.C K.k26 w none ([] : List K.S26).length [] := Kd.C_nil K.k26 w
theorem RJS.reads {w : World} {base J D c cE : Nat} {AE A : Option Addr} {es xs : List Int} {s m : Int} (h : RJS w base J D (.slice AE es.length cE) (.slice A xs.length c) es xs s m) : w.cell? ⟨J, 1, none⟩ = some (.slice AE es.length cE) ∧ w.cell? ⟨D, 0, none⟩ = some (.slice A xs.length c) ∧ w.cell? ⟨D, 1, none⟩ = some (.int .i64 s) ∧ (convert 27 9 (.slice A xs.length c)).run Try.prog w = .ok (.string (strOfNums xs)) w :=
 ⟨h.jat.c1, h.disk.cells.c0, h.disk.cells.c1, str_of h.disk.row.C.2⟩
set_option maxHeartbeats 16000000 in
theorem jplays_good (A0 : Option Addr) (c0 : Nat) (first : List Int) (most : Int) (A1 : Option Addr) (c1 : Nat) (ks : List Int) (A2 : Option Addr) (c2 : Nat) (ps : List (List K.S26)) (A3 : Option Addr) (c3 : Nat) (ns : List Int) (w : World)
 (hr0 : Kd.C (Kd.int .u8) w A0 first.length first) (hB0 : areBytesN first = true) (hr1 : Kd.C (Kd.int .u8) w A1 ks.length ks) (hr2 : Kd.C (Kd.slice 26 K.k26) w A2 ps.length ps) (hr3 : Kd.C (Kd.int .i64) w A3 ns.length ns)
 (hk : ∀ i : Nat, 0 ≤ ks.getD i 0) (hn : ∀ i : Nat, -9223372036854775808 ≤ ns.getD i 0 ∧ ns.getD i 0 ≤ 9223372036854775807) (hp : ∀ i : Nat, (ps.getD i []).length ≤ 1048576) (h0 : 0 ≤ most) (h1 : most ≤ 262144) :
 Calls Try.prog 18 #[.slice A0 first.length c0, .int .i64 most, .slice A1 ks.length c1, .slice A2 ps.length c2, .slice A3 ns.length c3] w fun e w' => e = .returned (.bool true) ∧ Below w.heap.size w w' := by
 obtain ⟨xs0, r0, hlog⟩ := log_exists _ (appL most [] first) (Nat.le_refl _) (app_bytes most first hB0)
 have HLOG := Lib.hid hlog
 have HBY := Lib.hid (app_bytes most first hB0)
 have HC0 := Lib.hid hr0
 have HC1 := Lib.hid hr1
 have HC2 := Lib.hid hr2
 have HC3 := Lib.hid hr3
 have HK := Lib.hid hk
 have HN := Lib.hid hn
 have HP := Lib.hid hp
 have hl1 : ks.length ≤ 9223372036854775807 := hr1.2.1
 have hl3 : ns.length ≤ 9223372036854775807 := hr3.2.1
 have hl2 : ps.length ≤ 9223372036854775807 := hr2.2.1
 clear hr0 hr1 hr2 hr3 hk hn hp hlog
 go_enter Try.func18, Try.ntmps18
 go_upto_region 7 with (first
  | (go_at_call 26; refine (new_is _ _ w.heap.size (Nat.le_refl _) h0 h1).mono ?_; rintro e w1 ⟨rfl, hd, hb⟩; have hz1 : w.heap.size < w1.heap.size := hd.cells.lt; have HD1 := Lib.hid hd; have HB1 := Lib.hid hb; clear hd hb)
  | (go_at_call 27; refine (refNew_is _ _ w.heap.size HB1.out.size h0 h1).mono ?_; rintro e w2 ⟨rfl, hd, hb⟩; have HT2 : Hid (Two w2 w.heap.size w.heap.size w1.heap.size (.slice none 0 0) (.slice none 0 0) [] 0 most) := Lib.hid ⟨HD1.out.below hb (Nat.le_refl _), hd, by omega, Apart.nil _⟩; have HB2 := Lib.hid (HB1.out.trans (hb.mono HB1.out.size)); clear hd hb)
  | (go_at_call 29; refine (append_any HT2.out.d A0 c0 (Kd.C_below HC0.out HB2.out)).mono ?_; rintro e w3 ⟨rfl, v3, hd, hs⟩; have HD3 := Lib.hid hd; have HS3 := Lib.hid hs; have HR3 := Lib.hid (HT2.out.r.ref HT2.out.d hs HT2.out.ne.symm HT2.out.ap); have HW3 := Lib.hid (HB2.out.trans (hs.below HT2.out.d)); clear hd hs)
  | (go_at_call 30; refine (refAppend_any HR3.out A0 c0 (Kd.C_below HC0.out HW3.out)).mono ?_; rintro e w4 ⟨rfl, u4, hd, hs⟩; have HT4 := Lib.hid (HT2.out.acted HD3.out HS3.out hd hs).1; have HW4 := Lib.hid (HB2.out.trans (HT2.out.acted HD3.out HS3.out hd hs).2); clear hd hs))
 go_upto_region 8 with (go_at_call 72; refine (jopen_is HT4.out.d HBY.out HLOG.out).mono ?_; rintro e w5 ⟨J, vE, vL, v5, rfl, hJ, hj, he, hll, hd, hs⟩; obtain ⟨AL, cL, rfl, _, _⟩ := ER.C hll; have HJ5 := Lib.hid (JS.made (base := w.heap.size) HW4.out.size hJ hj he hd); have HL5 := Lib.hid hll; have HR5 := Lib.hid (HT4.out.r.ref HT4.out.d hs HT4.out.ne.symm HT4.out.ap); have HA5 := Lib.hid (hs.apart HT4.out.ap HT4.out.r.row); have HW5 := Lib.hid (HW4.out.trans (hs.below HT4.out.d)); have HZ5 := Lib.hid hs.size; clear hJ hj he hll hd hs)
 go_upto_region 9 with (go_at_call 80; refine (rjopen_is HR5.out HBY.out HLOG.out).mono ?_; rintro e w6 ⟨J', uE, uL, u6, rfl, hJ, hj, he, hll, hd, hs⟩; obtain ⟨BL, dL, rfl, _, hCu⟩ := ER.C hll; have HCu := Lib.hid hCu; have hR6 := RJS.made (base := w.heap.size) HW5.out.size hJ hj he hd; have hJ6 := HJ5.out.otherRef HR5.out hs HA5.out; have HJP6 : Hid (JP w6 w.heap.size J w.heap.size vE v5 J' w1.heap.size uE u6 (endsE 0 xs0) (flatE xs0) ((flatE xs0).length : Int) most) := Lib.hid ⟨hJ6, hR6, (hs.apart HA5.out.symm HJ5.out.disk.row).symm⟩; have HL6 := Lib.hid (hs.R HL5.out (by have := HT4.out.r.cells.lt; omega) (fun k hk => (HT4.out.r.row.block hk).2.1)); have HW6 := Lib.hid (HW5.out.trans (hs.belowR HR5.out)); clear hJ hj he hll hd hs hCu hR6 hJ6)
 obtain ⟨AL2, cL2, e2, _, hCv⟩ := ER.C HL6.out
 cases e2
 have HEN := Lib.hid (entries18_yes w6 AL BL cL dL xs0 hCv HCu.out)
 have HF0 : Hid (∀ x ∈ xs0, Fine x) := Lib.hid HLOG.out.fine
 clear hCv HCu HL6 HL5 HJ5 HR5 HA5 HW5 HZ5 HT4 HW4 HT2 HB2 HD1 HB1 HD3 HS3 HR3 HW3
 go_upto_region 11 with (go_at_call 73; refine HEN.out.mono ?_; rintro e w7 ⟨rfl, hb⟩; have HJP7 := Lib.hid (HJP6.out.below hb (Nat.le_refl _)); have HW7 := Lib.hid (HW6.out.trans (hb.mono HW6.out.size)); clear hb)
 clear HEN HJP6 HW6 HLOG HBY HC0
 obtain ⟨D2, hD2⟩ : ∃ D2, w1.heap.size = D2 := ⟨_, rfl⟩
 rw [hD2] at HJP7 ⊢
 clear hD2
 go_wp2_with (fail)
 go_loopg [15, 18, 20] 51 (fun g s15 s18 s20 wr => ∃ (i J J' : Nat) (vE v uE u : Value) (xs : List K.S26) (s : Int), s15 = .pointer (some ⟨J, 0, none⟩) ∧ s18 = .pointer (some ⟨J', 0, none⟩) ∧ s20 = .int .i64 i ∧ i ≤ 50 ∧ g = 51 - i ∧ Hid (∀ x ∈ xs, Fine x) ∧ Hid (JP wr w.heap.size J w.heap.size vE v J' D2 uE u (endsE 0 xs) (flatE xs) s most) ∧ Hid (Below w.heap.size w wr))
 case atStart => exact ⟨0, J, J', _, _, _, _, xs0, _, rfl, rfl, rfl, by omega, rfl, HF0, HJP7, HW7⟩
 case round =>
  clear HF0 HJP7 HW7
  obtain ⟨i, J1, J2, vE1, v1, uE1, u1, xs, s, rfl, rfl, rfl, hi, hg, HF, HP1, HB⟩ := hrel
  by_cases hlt : i < ks.length ∧ i < ps.length ∧ i < ns.length ∧ i < 50
  · obtain ⟨q1, q2, q3, q4⟩ := hlt
    obtain ⟨ad1, e1, hc1⟩ := Kd.at_int (Kd.C_below HC1.out HB.out) (i : Int) (by omega) (by omega)
    subst e1
    have hk0 := HK.out i
    have hrd : rd ks (i : Int) = ks.getD i 0 := rfl
    rw [hrd, Int.toNat_natCast] at hc1
    clear hrd
    generalize ks.getD i 0 = k at hc1 hk0
    have hk4 : k % 4 = 0 ∨ k % 4 = 1 ∨ k % 4 = 2 ∨ k % 4 = 3 := by omega
    have HK4 := Lib.hid hk4
    clear hk4
    go_upto_block 2 with (fail)
    go_cut [15, 18, 20, 21, 22, 23, 24, 25, 26] from 90 to 230 (fun s15 s18 s20 s21 s22 s23 s24 s25 s26 wx => s20 = .int .i64 i ∧ ∃ (J J' : Nat) (vE v uE u : Value) (xs : List K.S26) (s : Int), s15 = .pointer (some ⟨J, 0, none⟩) ∧ s18 = .pointer (some ⟨J', 0, none⟩) ∧ Hid (∀ x ∈ xs, Fine x) ∧ Hid (JP wx w.heap.size J w.heap.size vE v J' D2 uE u (endsE 0 xs) (flatE xs) s most) ∧ Hid (Below w.heap.size w wx))
    case first =>
     have hk4 := HK4.out
     clear HK4
     rcases hk4 with hk4 | hk4 | hk4 | hk4
     · obtain ⟨ad2, Ap, cp, e2, hcw, hcp1, hrp⟩ := at_ents HC2.out i q2
       subst e2
       have hpl := HP.out i
       generalize ps.getD i [] = p at hcw hcp1 hrp hpl
       have HCW := Lib.hid hcw
       have HPC := Lib.hid hrp
       clear hcw hrp
       have hc3 := pw_cell_below HB.out HCW.out
       go_wp2_with (fail)
       refine start_ (n := 13) (S := fun w' => w'.cell? (ad2.add i) = some (.slice Ap p.length cp)) (ds := []) #[false, false, false, false, false, false, false, false, false, false, false, false, false] (by kernel_rfl) rfl rfl (pw_cell_below (below_drew1 (Below.refl _ _)) hc3) (fun hHeld => ?_); refine with_tabW jpl18.tab jpl18.bits (fun HT_ HW_ => ?_)
       have hbd : Below wr.heap.size wr wr.drew := below_drew1 (Below.refl _ _)
       have HPd := Lib.hid (HP1.out.below hbd (Nat.le_refl _))
       have HBd := Lib.hid (HB.out.trans (hbd.mono HB.out.size))
       clear hbd HP1 HB
       obtain ⟨w2, hw2⟩ : ∃ w2, wr.drew = w2 := ⟨_, rfl⟩
       rw [hw2] at hHeld HPd HBd ⊢
       clear hw2
       obtain ⟨E, ys, hys, hcp, hcr⟩ := app_pair HPd.out HF.out Ap cp p (Kd.C_below HPC.out HBd.out) hcp1 hpl
       have HYS := Lib.hid hys
       have HCP := Lib.hid hcp
       have HCR := Lib.hid hcr
       clear hys hcp hcr
       refine pure_ (i := 0) (N := (some 132)) (v := ?_) (a' := ?_) #[true, false, false, false, false, false, false, false, false, false, false, false, false] rfl rfl (any_of HT_.out (by kernel_rfl)) (fun _ _ _ h => h) (Or.inl ⟨by rfl, ?_⟩) ?_ ?_
       rotate_left
       · intro w'
         go_simp
         with_reducible rfl
       rotate_left
       · simp only [Act.put, sA_, sB_, sC_, i64_w, i32_w]
         rfl
       refine pure_ (i := 1) (N := (some 133)) (v := ?_) (a' := ?_) #[true, true, false, false, false, false, false, false, false, false, false, false, false] rfl rfl (any_of HT_.out (by kernel_rfl)) (fun _ _ _ h => h) (Or.inl ⟨by rfl, ?_⟩) ?_ ?_
       rotate_left
       · intro w'
         go_simp
         with_reducible rfl
       rotate_left
       · simp only [Act.put, sA_, sB_, sC_, i64_w, i32_w]
         rfl
       refine pure_ (i := 2) (N := (some 134)) (v := ?_) (a' := ?_) #[true, true, true, false, false, false, false, false, false, false, false, false, false] rfl rfl (any_of HT_.out (by kernel_rfl)) (fun _ _ _ h => h) (Or.inl ⟨by rfl, ?_⟩) ?_ ?_
       rotate_left
       · intro w'
         go_simp
         with_reducible rfl
       rotate_left
       · simp only [Act.put, sA_, sB_, sC_, i64_w, i32_w]
         rfl
       refine pure_ (i := 3) (N := (some 135)) (v := ?_) (a' := ?_) #[true, true, true, true, false, false, false, false, false, false, false, false, false] rfl rfl (any_of HT_.out (by kernel_rfl)) (fun _ _ _ h => h) (Or.inl ⟨by rfl, ?_⟩) ?_ ?_
       rotate_left
       · intro w'
         go_simp
         with_reducible rfl
       rotate_left
       · simp only [Act.put, sA_, sB_, sC_, i64_w, i32_w]
         rfl
       refine pure_ (i := 6) (N := (some 138)) (v := ?_) (a' := ?_) #[true, true, true, true, false, false, true, false, false, false, false, false, false] rfl rfl (any_of HT_.out (by kernel_rfl)) (fun _ _ _ h => h) (Or.inl ⟨by rfl, ?_⟩) ?_ ?_
       rotate_left
       · intro w'
         go_simp
         with_reducible rfl
       rotate_left
       · simp only [Act.put, sA_, sB_, sC_, i64_w, i32_w]
         rfl
       refine pure_ (i := 7) (N := (some 139)) (v := ?_) (a' := ?_) #[true, true, true, true, false, false, true, true, false, false, false, false, false] rfl rfl (any_of HT_.out (by kernel_rfl)) (fun _ _ _ h => h) (Or.inl ⟨by rfl, ?_⟩) ?_ ?_
       rotate_left
       · intro w'
         go_simp
         with_reducible rfl
       rotate_left
       · simp only [Act.put, sA_, sB_, sC_, i64_w, i32_w]
         rfl
       refine pure_ (i := 8) (N := (some 140)) (v := ?_) (a' := ?_) #[true, true, true, true, false, false, true, true, true, false, false, false, false] rfl rfl (any_of HT_.out (by kernel_rfl)) (fun _ _ _ h => h) (Or.inl ⟨by rfl, ?_⟩) ?_ ?_
       rotate_left
       · intro w'
         go_simp
         with_reducible rfl
       rotate_left
       · simp only [Act.put, sA_, sB_, sC_, i64_w, i32_w]
         rfl
       refine pure_ (i := 9) (N := (some 141)) (v := ?_) (a' := ?_) #[true, true, true, true, false, false, true, true, true, true, false, false, false] rfl rfl (any_of HT_.out (by kernel_rfl)) (fun _ _ _ h => h) (Or.inl ⟨by rfl, ?_⟩) ?_ ?_
       rotate_left
       · intro w'
         go_simp
         with_reducible rfl
       rotate_left
       · simp only [Act.put, sA_, sB_, sC_, i64_w, i32_w]
         rfl
       refine take_ (i := 4) (N := (some 136)) (v := ?_) (a' := ?_) #[true, true, true, true, true, false, true, true, true, true, false, false, false] rfl rfl (take_ofW HT_.out HW_.out (by kernel_rfl)) (fun _ _ _ h => h) (Or.inl ⟨by rfl, ?_⟩) hHeld ?_ ?_
       rotate_left
       · rintro w' s0
         go_simp
         with_reducible rfl
       rotate_left
       · simp only [Act.put, sA_, sB_, sC_, i64_w, i32_w]
         rfl
       refine take_ (i := 10) (N := (some 142)) (v := ?_) (a' := ?_) #[true, true, true, true, true, false, true, true, true, true, true, false, false] rfl rfl (take_ofW HT_.out HW_.out (by kernel_rfl)) (fun _ _ _ h => h) (Or.inl ⟨by rfl, ?_⟩) hHeld ?_ ?_
       rotate_left
       · rintro w' s0
         go_simp
         with_reducible rfl
       rotate_left
       · simp only [Act.put, sA_, sB_, sC_, i64_w, i32_w]
         rfl
       refine one_ (i := 5) (N := (some 137)) #[true, true, true, true, true, true, true, true, true, true, true, false, false] rfl rfl (one_of HT_.out (by kernel_rfl)) (by decide) (fun K hK => ?_)
       refine goes_ Try.func76 (by kernel_rfl) rfl #[.pointer (some ⟨J1, 0, none⟩), .slice Ap p.length cp] (by rfl) rfl rfl (by (try simp only [List.map_toArray, List.map_cons, List.map_nil]); first | done | rfl) ?_
       refine HCP.out.mono ?_
       rintro e w4 ⟨rfl, vE4, v4, hd, hs⟩
       refine ⟨_, rfl, ?_⟩
       have HJ4 := Lib.hid hd
       have HS4 := Lib.hid hs
       have HR4 := Lib.hid (HPd.out.two.otherJ HPd.out.one hs HPd.out.ap.symm)
       have HB4 := Lib.hid (HBd.out.trans (hs.belowJ HPd.out.one))
       clear hd hs
       refine hK.out _ _ (pw_cell_below HB4.out HCW.out) (fun hHeld => ?_)
       clear hK K
       refine norm_ (a' := ?_) ?_ ?_
       rotate_left
       · show Act.put _ (some 137) _ = _
         simp only [Act.put, sA_, sB_, sC_, i64_w, i32_w]
         rfl
       refine one_ (i := 11) (N := (some 143)) #[true, true, true, true, true, true, true, true, true, true, true, true, false] rfl rfl (one_of HT_.out (by kernel_rfl)) (by decide) (fun K hK => ?_)
       refine goes_ Try.func81 (by kernel_rfl) rfl #[.pointer (some ⟨J2, 0, none⟩), .slice Ap p.length cp] (by rfl) rfl rfl (by (try simp only [List.map_toArray, List.map_cons, List.map_nil]); first | done | rfl) ?_
       refine (HCR.out w4 HR4.out (Kd.C_below HPC.out HB4.out) HB4.out.size).mono ?_
       rintro e w5 ⟨rfl, uE5, u5, hd, hs⟩
       refine ⟨_, rfl, ?_⟩
       have HX := HPd.out.acted HJ4.out HS4.out hd hs
       have HP5 := Lib.hid HX.1
       have HB5 := Lib.hid (HBd.out.trans HX.2)
       clear hd hs HX
       refine hK.out _ _ (pw_cell_below HB5.out HCW.out) (fun hHeld => ?_)
       clear hK K
       refine norm_ (a' := ?_) ?_ ?_
       rotate_left
       · show Act.put _ (some 143) _ = _
         simp only [Act.put, sA_, sB_, sC_, i64_w, i32_w]
         rfl
       refine pure_ (i := 12) (N := (some 144)) (v := ?_) (a' := ?_) #[true, true, true, true, true, true, true, true, true, true, true, true, true] rfl rfl (any_of HT_.out (by kernel_rfl)) (fun _ _ _ h => h) (Or.inl ⟨by rfl, ?_⟩) ?_ ?_
       rotate_left
       · intro w'
         go_simp
         with_reducible rfl
       rotate_left
       · simp only [Act.put, sA_, sB_, sC_, i64_w, i32_w]
         rfl
       refine done_ (done_of HT_.out (by kernel_rfl)) ?_
       go_wp2_with (fail)
       go_meet
       case rel => exact ⟨rfl, J1, J2, _, _, _, _, ys, _, rfl, rfl, HYS, HP5, HB5⟩
     · go_wp2_with (first
        | (go_at_call 31; refine (refSync_is HP1.out.two.disk).mono ?_; rintro e w2 ⟨rfl, hd, hs⟩; have HR2 := Lib.hid (HP1.out.two.acted hs hd); have HS2 := Lib.hid (JStep.of_disk J2 uE1 hs); have HJ2 := Lib.hid (HP1.out.one.otherR HP1.out.two (JStep.of_disk J2 uE1 hs) HP1.out.ap); clear hd hs)
        | (go_at_call 77; refine (jsync_is HJ2.out).mono ?_; rintro e w3 ⟨rfl, hd, hs⟩; have HX := HP1.out.acted' HR2.out HS2.out hd hs; have HX1 := Lib.hid HX.1; have HX2 := Lib.hid (HB.out.trans HX.2); clear hd hs HX))
       go_meet
       case rel => exact ⟨rfl, J1, J2, _, _, _, _, xs, _, rfl, rfl, HF, HX1, HX2⟩
     · obtain ⟨ad3, e3, hcw⟩ := Kd.at_int HC3.out (i : Int) (by omega) (by omega)
       subst e3
       have hrd : rd ns (i : Int) = ns.getD i 0 := rfl
       rw [hrd, Int.toNat_natCast] at hcw
       clear hrd
       have hn01 := HN.out i
       obtain ⟨hn0, hn1⟩ := hn01
       generalize ns.getD i 0 = n at hcw hn0 hn1
       have HCW := Lib.hid hcw
       clear hcw
       have hc3 := pw_cell_below HB.out HCW.out
       by_cases hneg : n < 0
       · have HNEG := Lib.hid hneg
         clear hneg hn0 hn1
         go_wp2_with (first
          | (go_at_call 78; refine (jcrash_bad HP1.out.one n HNEG.out).mono ?_; rintro e w' ⟨rfl, rfl⟩)
          | (go_at_call 82; refine (rjcrash_bad HP1.out.two n HNEG.out).mono ?_; rintro e w' ⟨rfl, rfl⟩)
          | (go_at_call 73; refine (entries18_yes wr none none 0 0 [] (C_nil26 wr) (C_nil26 wr)).mono ?_; rintro e w5 ⟨rfl, hb⟩; have HP5 := Lib.hid (HP1.out.below hb (Nat.le_refl _)); have HB5 := Lib.hid (HB.out.trans (hb.mono HB.out.size)); clear hb))
         go_meet
         case rel => exact ⟨rfl, J1, J2, _, _, _, _, xs, _, rfl, rfl, HF, HP5, HB5⟩
       · obtain ⟨ys, hys, hcp, hcr⟩ := crash_pair HP1.out HF.out n (by omega) hn1 HB.out.size
         have HYS := Lib.hid hys
         have HCP := Lib.hid hcp
         have HCR := Lib.hid hcr
         clear hys hcp hcr hneg hn0 hn1
         go_upto_region 26 with (go_at_call 78; refine HCP.out.mono ?_; rintro e w4 ⟨J3, vE4, vL4, v4, rfl, hJ3, hd, hl, hs⟩; obtain ⟨AL, cL, rfl, _, _⟩ := ER.C hl; have HD4 := Lib.hid hd; have HS4 := Lib.hid hs; have HL4 := Lib.hid hl; have HR4 := Lib.hid (HP1.out.two.otherJ HP1.out.one (JStep.of_disk J1 vE1 hs) HP1.out.ap.symm); have HB4 := Lib.hid (HB.out.trans (hs.below HP1.out.one.disk)); clear hd hs hl)
         have hc4 := pw_cell_below HB4.out HCW.out
         go_upto_region 27 with (go_at_call 82; refine (HCR.out w4 HR4.out).mono ?_; rintro e w5 ⟨J4, uE5, uL5, u5, rfl, hJ4, hd, hl, hs⟩; obtain ⟨BL, dL, rfl, _, hCu⟩ := ER.C hl; have HCu := Lib.hid hCu; have HX := HP1.out.crashed HD4.out HS4.out hd hs; have HP5 := Lib.hid HX.1; have HB5 := Lib.hid (HB.out.trans HX.2); have hL5 := hs.R HL4.out HP1.out.two.disk.cells.lt (fun k hk => (HP1.out.two.disk.row.block hk).2.1); have HL5 := Lib.hid hL5; clear hd hs hl hCu HX hL5)
         obtain ⟨AL2, cL2, e2, _, hCv⟩ := ER.C HL5.out
         cases e2
         have HEN := Lib.hid (entries18_yes w5 AL BL cL dL ys hCv HCu.out)
         clear hCv HCu HL5 HL4 hc4
         go_wp2_with (go_at_call 73; refine HEN.out.mono ?_; rintro e w6 ⟨rfl, hb⟩; have HP6 := Lib.hid (HP5.out.below hb (Nat.le_refl _)); have HB6 := Lib.hid (HB5.out.trans (hb.mono HB5.out.size)); clear hb)
         go_meet
         case rel => exact ⟨rfl, J3, J4, _, _, _, _, ys, _, rfl, rfl, HYS, HP6, HB6⟩
     · obtain ⟨ad3, e3, hcw⟩ := Kd.at_int HC3.out (i : Int) (by omega) (by omega)
       subst e3
       have hrd : rd ns (i : Int) = ns.getD i 0 := rfl
       rw [hrd, Int.toNat_natCast] at hcw
       clear hrd
       generalize ns.getD i 0 = n at hcw
       have HCW := Lib.hid hcw
       clear hcw
       have hc3 := pw_cell_below HB.out HCW.out
       go_wp2_with (fail)
       refine start_ (n := 13) (S := fun w' => w'.cell? (ad3.add i) = some (.int .i64 n)) (ds := []) #[false, false, false, false, false, false, false, false, false, false, false, false, false] (by kernel_rfl) rfl rfl (pw_cell_below (below_drew1 (Below.refl _ _)) hc3) (fun hHeld => ?_); refine with_tabW jpl15.tab jpl15.bits (fun HT_ HW_ => ?_)
       have hbd : Below wr.heap.size wr wr.drew := below_drew1 (Below.refl _ _)
       have HPd := Lib.hid (HP1.out.below hbd (Nat.le_refl _))
       have HBd := Lib.hid (HB.out.trans (hbd.mono HB.out.size))
       clear hbd HP1 HB
       obtain ⟨w2, hw2⟩ : ∃ w2, wr.drew = w2 := ⟨_, rfl⟩
       rw [hw2] at hHeld HPd HBd ⊢
       clear hw2
       obtain ⟨E, ys, s2, hys, hcp, hcr⟩ := cut_pair HPd.out HF.out HBd.out.size n
       have HYS := Lib.hid hys
       have HCP := Lib.hid hcp
       have HCR := Lib.hid hcr
       clear hys hcp hcr
       refine pure_ (i := 0) (N := (some 117)) (v := ?_) (a' := ?_) #[true, false, false, false, false, false, false, false, false, false, false, false, false] rfl rfl (any_of HT_.out (by kernel_rfl)) (fun _ _ _ h => h) (Or.inl ⟨by rfl, ?_⟩) ?_ ?_
       rotate_left
       · intro w'
         go_simp
         with_reducible rfl
       rotate_left
       · simp only [Act.put, sA_, sB_, sC_, i64_w, i32_w]
         rfl
       refine pure_ (i := 1) (N := (some 118)) (v := ?_) (a' := ?_) #[true, true, false, false, false, false, false, false, false, false, false, false, false] rfl rfl (any_of HT_.out (by kernel_rfl)) (fun _ _ _ h => h) (Or.inl ⟨by rfl, ?_⟩) ?_ ?_
       rotate_left
       · intro w'
         go_simp
         with_reducible rfl
       rotate_left
       · simp only [Act.put, sA_, sB_, sC_, i64_w, i32_w]
         rfl
       refine pure_ (i := 2) (N := (some 119)) (v := ?_) (a' := ?_) #[true, true, true, false, false, false, false, false, false, false, false, false, false] rfl rfl (any_of HT_.out (by kernel_rfl)) (fun _ _ _ h => h) (Or.inl ⟨by rfl, ?_⟩) ?_ ?_
       rotate_left
       · intro w'
         go_simp
         with_reducible rfl
       rotate_left
       · simp only [Act.put, sA_, sB_, sC_, i64_w, i32_w]
         rfl
       refine pure_ (i := 3) (N := (some 120)) (v := ?_) (a' := ?_) #[true, true, true, true, false, false, false, false, false, false, false, false, false] rfl rfl (any_of HT_.out (by kernel_rfl)) (fun _ _ _ h => h) (Or.inl ⟨by rfl, ?_⟩) ?_ ?_
       rotate_left
       · intro w'
         go_simp
         with_reducible rfl
       rotate_left
       · simp only [Act.put, sA_, sB_, sC_, i64_w, i32_w]
         rfl
       refine pure_ (i := 6) (N := (some 123)) (v := ?_) (a' := ?_) #[true, true, true, true, false, false, true, false, false, false, false, false, false] rfl rfl (any_of HT_.out (by kernel_rfl)) (fun _ _ _ h => h) (Or.inl ⟨by rfl, ?_⟩) ?_ ?_
       rotate_left
       · intro w'
         go_simp
         with_reducible rfl
       rotate_left
       · simp only [Act.put, sA_, sB_, sC_, i64_w, i32_w]
         rfl
       refine pure_ (i := 7) (N := (some 124)) (v := ?_) (a' := ?_) #[true, true, true, true, false, false, true, true, false, false, false, false, false] rfl rfl (any_of HT_.out (by kernel_rfl)) (fun _ _ _ h => h) (Or.inl ⟨by rfl, ?_⟩) ?_ ?_
       rotate_left
       · intro w'
         go_simp
         with_reducible rfl
       rotate_left
       · simp only [Act.put, sA_, sB_, sC_, i64_w, i32_w]
         rfl
       refine pure_ (i := 8) (N := (some 125)) (v := ?_) (a' := ?_) #[true, true, true, true, false, false, true, true, true, false, false, false, false] rfl rfl (any_of HT_.out (by kernel_rfl)) (fun _ _ _ h => h) (Or.inl ⟨by rfl, ?_⟩) ?_ ?_
       rotate_left
       · intro w'
         go_simp
         with_reducible rfl
       rotate_left
       · simp only [Act.put, sA_, sB_, sC_, i64_w, i32_w]
         rfl
       refine pure_ (i := 9) (N := (some 126)) (v := ?_) (a' := ?_) #[true, true, true, true, false, false, true, true, true, true, false, false, false] rfl rfl (any_of HT_.out (by kernel_rfl)) (fun _ _ _ h => h) (Or.inl ⟨by rfl, ?_⟩) ?_ ?_
       rotate_left
       · intro w'
         go_simp
         with_reducible rfl
       rotate_left
       · simp only [Act.put, sA_, sB_, sC_, i64_w, i32_w]
         rfl
       refine take_ (i := 4) (N := (some 121)) (v := ?_) (a' := ?_) #[true, true, true, true, true, false, true, true, true, true, false, false, false] rfl rfl (take_ofW HT_.out HW_.out (by kernel_rfl)) (fun _ _ _ h => h) (Or.inl ⟨by rfl, ?_⟩) hHeld ?_ ?_
       rotate_left
       · rintro w' s0
         go_simp
         with_reducible rfl
       rotate_left
       · simp only [Act.put, sA_, sB_, sC_, i64_w, i32_w]
         rfl
       refine take_ (i := 10) (N := (some 127)) (v := ?_) (a' := ?_) #[true, true, true, true, true, false, true, true, true, true, true, false, false] rfl rfl (take_ofW HT_.out HW_.out (by kernel_rfl)) (fun _ _ _ h => h) (Or.inl ⟨by rfl, ?_⟩) hHeld ?_ ?_
       rotate_left
       · rintro w' s0
         go_simp
         with_reducible rfl
       rotate_left
       · simp only [Act.put, sA_, sB_, sC_, i64_w, i32_w]
         rfl
       refine one_ (i := 5) (N := (some 122)) #[true, true, true, true, true, true, true, true, true, true, true, false, false] rfl rfl (one_of HT_.out (by kernel_rfl)) (by decide) (fun K hK => ?_)
       refine goes_ Try.func83 (by kernel_rfl) rfl #[.pointer (some ⟨J1, 0, none⟩), .int .i64 n] (by rfl) rfl rfl (by (try simp only [List.map_toArray, List.map_cons, List.map_nil]); first | done | rfl) ?_
       refine HCP.out.mono ?_
       rintro e w4 ⟨rfl, vE4, v4, hd, hs⟩
       refine ⟨_, rfl, ?_⟩
       have HJ4 := Lib.hid hd
       have HS4 := Lib.hid hs
       have HR4 := Lib.hid (HPd.out.two.otherJ HPd.out.one hs HPd.out.ap.symm)
       have HB4 := Lib.hid (HBd.out.trans (hs.belowJ HPd.out.one))
       clear hd hs
       refine hK.out _ _ (pw_cell_below HB4.out HCW.out) (fun hHeld => ?_)
       clear hK K
       refine norm_ (a' := ?_) ?_ ?_
       rotate_left
       · show Act.put _ (some 122) _ = _
         simp only [Act.put, sA_, sB_, sC_, i64_w, i32_w]
         rfl
       refine one_ (i := 11) (N := (some 128)) #[true, true, true, true, true, true, true, true, true, true, true, true, false] rfl rfl (one_of HT_.out (by kernel_rfl)) (by decide) (fun K hK => ?_)
       refine goes_ Try.func84 (by kernel_rfl) rfl #[.pointer (some ⟨J2, 0, none⟩), .int .i64 n] (by rfl) rfl rfl (by (try simp only [List.map_toArray, List.map_cons, List.map_nil]); first | done | rfl) ?_
       refine (HCR.out w4 HR4.out HB4.out.size).mono ?_
       rintro e w5 ⟨rfl, uE5, u5, hd, hs⟩
       refine ⟨_, rfl, ?_⟩
       have HX := HPd.out.acted HJ4.out HS4.out hd hs
       have HP5 := Lib.hid HX.1
       have HB5 := Lib.hid (HBd.out.trans HX.2)
       clear hd hs HX
       refine hK.out _ _ (pw_cell_below HB5.out HCW.out) (fun hHeld => ?_)
       clear hK K
       refine norm_ (a' := ?_) ?_ ?_
       rotate_left
       · show Act.put _ (some 128) _ = _
         simp only [Act.put, sA_, sB_, sC_, i64_w, i32_w]
         rfl
       refine pure_ (i := 12) (N := (some 129)) (v := ?_) (a' := ?_) #[true, true, true, true, true, true, true, true, true, true, true, true, true] rfl rfl (any_of HT_.out (by kernel_rfl)) (fun _ _ _ h => h) (Or.inl ⟨by rfl, ?_⟩) ?_ ?_
       rotate_left
       · intro w'
         go_simp
         with_reducible rfl
       rotate_left
       · simp only [Act.put, sA_, sB_, sC_, i64_w, i32_w]
         rfl
       refine done_ (done_of HT_.out (by kernel_rfl)) ?_
       go_wp2_with (fail)
       go_meet
       case rel => exact ⟨rfl, J1, J2, _, _, _, _, ys, _, rfl, rfl, HYS, HP5, HB5⟩
    case rest =>
     clear HF HP1 HB
     obtain ⟨rfl, J3, J4, vE3, v3, uE3, u3, ys, s3, rfl, rfl, HF3, HP3, HB3⟩ := hcut
     have hsu := sure_eq ys s3
     obtain ⟨es, hes⟩ : ∃ es, endsE 0 ys = es := ⟨_, rfl⟩
     obtain ⟨bb, hbb⟩ : ∃ bb, flatE ys = bb := ⟨_, rfl⟩
     obtain ⟨q, hq⟩ : ∃ q, sureR s3 es = q := ⟨_, rfl⟩
     rw [hes, hq] at hsu
     rw [hes, hbb] at HP3
     have HES := Lib.hid hes
     have HBB := Lib.hid hbb
     have HSU1 := Lib.hid hsu
     have HSU2 := Lib.hid hq
     clear hes hbb hsu hq
     obtain ⟨AE, cE, rfl, _, _⟩ := HP3.out.two.row
     obtain ⟨Au, cu, rfl, _⟩ := HP3.out.two.disk.row.len
     go_wp2_with (fail)
     refine start_ (n := 37) (S := fun w' => w'.cell? ⟨J4, 1, none⟩ = some (.slice AE es.length cE) ∧ w'.cell? ⟨D2, 0, none⟩ = some (.slice Au bb.length cu) ∧ w'.cell? ⟨D2, 1, none⟩ = some (.int .i64 s3) ∧ (convert 27 9 (.slice Au bb.length cu)).run Try.prog w' = .ok (.string (strOfNums bb)) w') (ds := []) #[false, false, false, false, false, false, false, false, false, false, false, false, false, false, false, false, false, false, false, false, false, false, false, false, false, false, false, false, false, false, false, false, false, false, false, false, false] (by kernel_rfl) rfl rfl (HP3.out.below (below_drew1 (Below.refl _ _)) (Nat.le_refl _)).two.reads (fun hHeld => ?_); refine with_tabW jpl32.tab jpl32.bits (fun HT_ HW_ => ?_)
     have HPa := Lib.hid (HP3.out.below (below_drew1 (Below.refl _ _)) (Nat.le_refl _))
     have HBa := Lib.hid (HB3.out.trans ((below_drew1 (Below.refl wc.heap.size wc)).mono HB3.out.size))
     clear HP3 HB3
     generalize wc.drew = Wa at *
     refine pure_ (i := 0) (N := (some 194)) (v := ?_) (a' := ?_) #[true, false, false, false, false, false, false, false, false, false, false, false, false, false, false, false, false, false, false, false, false, false, false, false, false, false, false, false, false, false, false, false, false, false, false, false, false] rfl rfl (any_of HT_.out (by kernel_rfl)) (fun _ _ _ h => h) (Or.inl ⟨by rfl, ?_⟩) ?_ ?_
     rotate_left
     · intro w'
       go_simp
       with_reducible rfl
     rotate_left
     · simp only [Act.put, sA_, sB_, sC_, i64_w, i32_w]
       rfl
     refine pure_ (i := 2) (N := (some 196)) (v := ?_) (a' := ?_) #[true, false, true, false, false, false, false, false, false, false, false, false, false, false, false, false, false, false, false, false, false, false, false, false, false, false, false, false, false, false, false, false, false, false, false, false, false] rfl rfl (any_of HT_.out (by kernel_rfl)) (fun _ _ _ h => h) (Or.inl ⟨by rfl, ?_⟩) ?_ ?_
     rotate_left
     · intro w'
       go_simp
       with_reducible rfl
     rotate_left
     · simp only [Act.put, sA_, sB_, sC_, i64_w, i32_w]
       rfl
     refine pure_ (i := 3) (N := (some 197)) (v := ?_) (a' := ?_) #[true, false, true, true, false, false, false, false, false, false, false, false, false, false, false, false, false, false, false, false, false, false, false, false, false, false, false, false, false, false, false, false, false, false, false, false, false] rfl rfl (any_of HT_.out (by kernel_rfl)) (fun _ _ _ h => h) (Or.inl ⟨by rfl, ?_⟩) ?_ ?_
     rotate_left
     · intro w'
       go_simp
       with_reducible rfl
     rotate_left
     · simp only [Act.put, sA_, sB_, sC_, i64_w, i32_w]
       rfl
     refine pure_ (i := 4) (N := (some 198)) (v := ?_) (a' := ?_) #[true, false, true, true, true, false, false, false, false, false, false, false, false, false, false, false, false, false, false, false, false, false, false, false, false, false, false, false, false, false, false, false, false, false, false, false, false] rfl rfl (any_of HT_.out (by kernel_rfl)) (fun _ _ _ h => h) (Or.inl ⟨by rfl, ?_⟩) ?_ ?_
     rotate_left
     · intro w'
       go_simp
       with_reducible rfl
     rotate_left
     · simp only [Act.put, sA_, sB_, sC_, i64_w, i32_w]
       rfl
     refine take_ (i := 5) (N := (some 199)) (v := ?_) (a' := ?_) #[true, false, true, true, true, true, false, false, false, false, false, false, false, false, false, false, false, false, false, false, false, false, false, false, false, false, false, false, false, false, false, false, false, false, false, false, false] rfl rfl (take_ofW HT_.out HW_.out (by kernel_rfl)) (fun _ _ _ h => h) (Or.inl ⟨by rfl, ?_⟩) hHeld ?_ ?_
     rotate_left
     · rintro w' ⟨s0, s1, s2, s3_⟩
       go_simp
       with_reducible rfl
     rotate_left
     · simp only [Act.put, sA_, sB_, sC_, i64_w, i32_w]
       rfl
     refine pure_ (i := 6) (N := (some 200)) (v := ?_) (a' := ?_) #[true, false, true, true, true, true, true, false, false, false, false, false, false, false, false, false, false, false, false, false, false, false, false, false, false, false, false, false, false, false, false, false, false, false, false, false, false] rfl rfl (any_of HT_.out (by kernel_rfl)) (fun _ _ _ h => h) (Or.inl ⟨by rfl, ?_⟩) ?_ ?_
     rotate_left
     · intro w'
       go_simp
       with_reducible rfl
     rotate_left
     · simp only [Act.put, sA_, sB_, sC_, i64_w, i32_w]
       rfl
     refine one_ (i := 1) (N := (some 195)) #[true, true, true, true, true, true, true, false, false, false, false, false, false, false, false, false, false, false, false, false, false, false, false, false, false, false, false, false, false, false, false, false, false, false, false, false, false] rfl rfl (one_of HT_.out (by kernel_rfl)) (by decide) (fun K hK => ?_)
     refine goes_ Try.func74 (by kernel_rfl) rfl #[.pointer (some ⟨J3, 0, none⟩)] (by rfl) rfl rfl (by (try simp only [List.map_toArray, List.map_cons, List.map_nil]); first | done | rfl) ?_
     refine (jlen_is HPa.out.one).mono ?_
     rintro e w' ⟨rfl, rfl⟩
     refine ⟨_, rfl, ?_⟩
     refine hK.out _ _ HPa.out.two.reads (fun hHeld => ?_)
     clear hK K
     refine norm_ (a' := ?_) ?_ ?_
     rotate_left
     · show Act.put _ (some 195) _ = _
       simp only [Act.put, sA_, sB_, sC_, i64_w, i32_w]
       rfl
     refine pure_ (i := 7) (N := (some 201)) (v := ?_) (a' := ?_) #[true, true, true, true, true, true, true, true, false, false, false, false, false, false, false, false, false, false, false, false, false, false, false, false, false, false, false, false, false, false, false, false, false, false, false, false, false] rfl rfl (any_of HT_.out (by kernel_rfl)) (fun _ _ _ h => h) (Or.inl ⟨by rfl, ?_⟩) ?_ ?_
     rotate_left
     · intro w'
       go_simp
       with_reducible rfl
     rotate_left
     · simp only [Act.put, sA_, sB_, sC_, i64_w, i32_w]
       rfl
     refine pure_ (i := 8) (N := (some 202)) (v := ?_) (a' := ?_) #[true, true, true, true, true, true, true, true, true, false, false, false, false, false, false, false, false, false, false, false, false, false, false, false, false, false, false, false, false, false, false, false, false, false, false, false, false] rfl rfl (any_of HT_.out (by kernel_rfl)) (fun _ _ _ h => h) (Or.inl ⟨by rfl, ?_⟩) ?_ ?_
     rotate_left
     · intro w'
       go_simp
       with_reducible rfl
     rotate_left
     · simp only [Act.put, sA_, sB_, sC_, i64_w, i32_w]
       rfl
     refine pure_ (i := 9) (N := (some 203)) (v := ?_) (a' := ?_) #[true, true, true, true, true, true, true, true, true, true, false, false, false, false, false, false, false, false, false, false, false, false, false, false, false, false, false, false, false, false, false, false, false, false, false, false, false] rfl rfl (any_of HT_.out (by kernel_rfl)) (fun _ _ _ h => h) (Or.inl ⟨by rfl, ?_⟩) ?_ ?_
     rotate_left
     · intro w'
       go_simp
       with_reducible rfl
     rotate_left
     · simp only [Act.put, sA_, sB_, sC_, i64_w, i32_w]
       rfl
     refine pure_ (i := 11) (N := (some 205)) (v := ?_) (a' := ?_) #[true, true, true, true, true, true, true, true, true, true, false, true, false, false, false, false, false, false, false, false, false, false, false, false, false, false, false, false, false, false, false, false, false, false, false, false, false] rfl rfl (any_of HT_.out (by kernel_rfl)) (fun _ _ _ h => h) (Or.inl ⟨by rfl, ?_⟩) ?_ ?_
     rotate_left
     · intro w'
       go_simp
       with_reducible rfl
     rotate_left
     · simp only [Act.put, sA_, sB_, sC_, i64_w, i32_w]
       rfl
     refine one_ (i := 10) (N := (some 204)) #[true, true, true, true, true, true, true, true, true, true, true, true, false, false, false, false, false, false, false, false, false, false, false, false, false, false, false, false, false, false, false, false, false, false, false, false, false] rfl rfl (one_of HT_.out (by kernel_rfl)) (by decide) (fun K hK => ?_)
     refine goes_ Try.func79 (by kernel_rfl) rfl #[.pointer (some ⟨J3, 0, none⟩)] (by rfl) rfl rfl (by (try simp only [List.map_toArray, List.map_cons, List.map_nil]); first | done | rfl) ?_
     refine (jsure_is HPa.out.one).mono ?_
     rintro e w' ⟨rfl, nq, rfl⟩
     rw [HSU1.out]
     refine ⟨_, rfl, ?_⟩
     have HPb := Lib.hid (HPa.out.below (pw_below_drewN (Below.refl _ _) nq) (Nat.le_refl _))
     have HBb := Lib.hid (pw_below_drewN HBa.out nq)
     clear HPa HBa
     generalize Wa.drewN nq = Wb at *
     refine hK.out _ _ HPb.out.two.reads (fun hHeld => ?_)
     clear hK K
     refine norm_ (a' := ?_) ?_ ?_
     rotate_left
     · show Act.put _ (some 204) _ = _
       simp only [Act.put, sA_, sB_, sC_, i64_w, i32_w]
       rfl
     refine one_ (i := 12) (N := (some 206)) #[true, true, true, true, true, true, true, true, true, true, true, true, true, false, false, false, false, false, false, false, false, false, false, false, false, false, false, false, false, false, false, false, false, false, false, false, false] rfl rfl (one_of HT_.out (by kernel_rfl)) (by decide) (fun K hK => ?_)
     refine goes_ Try.func85 (by kernel_rfl) rfl #[.pointer (some ⟨J4, 0, none⟩)] (by rfl) rfl rfl (by (try simp only [List.map_toArray, List.map_cons, List.map_nil]); first | done | rfl) ?_
     refine (rjsure_is HPb.out.two).mono ?_
     rintro e w' ⟨rfl, nq, rfl⟩
     rw [HSU2.out]
     refine ⟨_, rfl, ?_⟩
     have HPc := Lib.hid (HPb.out.below (pw_below_drewN (Below.refl _ _) nq) (Nat.le_refl _))
     have HBc := Lib.hid (pw_below_drewN HBb.out nq)
     clear HPb HBb
     generalize Wb.drewN nq = Wc at *
     refine hK.out _ _ HPc.out.two.reads (fun hHeld => ?_)
     clear hK K
     refine norm_ (a' := ?_) ?_ ?_
     rotate_left
     · show Act.put _ (some 206) _ = _
       simp only [Act.put, sA_, sB_, sC_, i64_w, i32_w]
       rfl
     refine pure_ (i := 13) (N := (some 207)) (v := ?_) (a' := ?_) #[true, true, true, true, true, true, true, true, true, true, true, true, true, true, false, false, false, false, false, false, false, false, false, false, false, false, false, false, false, false, false, false, false, false, false, false, false] rfl rfl (any_of HT_.out (by kernel_rfl)) (fun _ _ _ h => h) (Or.inl ⟨by rfl, ?_⟩) ?_ ?_
     rotate_left
     · intro w'
       go_simp
       with_reducible rfl
     rotate_left
     · simp only [Act.put, sA_, sB_, sC_, i64_w, i32_w]
       rfl
     refine pure_ (i := 14) (N := (some 208)) (v := ?_) (a' := ?_) #[true, true, true, true, true, true, true, true, true, true, true, true, true, true, true, false, false, false, false, false, false, false, false, false, false, false, false, false, false, false, false, false, false, false, false, false, false] rfl rfl (any_of HT_.out (by kernel_rfl)) (fun _ _ _ h => h) (Or.inl ⟨by rfl, ?_⟩) ?_ ?_
     rotate_left
     · intro w'
       go_simp
       with_reducible rfl
     rotate_left
     · simp only [Act.put, sA_, sB_, sC_, i64_w, i32_w]
       rfl
     refine pure_ (i := 15) (N := (some 209)) (v := ?_) (a' := ?_) #[true, true, true, true, true, true, true, true, true, true, true, true, true, true, true, true, false, false, false, false, false, false, false, false, false, false, false, false, false, false, false, false, false, false, false, false, false] rfl rfl (any_of HT_.out (by kernel_rfl)) (fun _ _ _ h => h) (Or.inl ⟨by rfl, ?_⟩) ?_ ?_
     rotate_left
     · intro w'
       go_simp
       with_reducible rfl
     rotate_left
     · simp only [Act.put, sA_, sB_, sC_, i64_w, i32_w]
       rfl
     refine pure_ (i := 16) (N := (some 210)) (v := ?_) (a' := ?_) #[true, true, true, true, true, true, true, true, true, true, true, true, true, true, true, true, true, false, false, false, false, false, false, false, false, false, false, false, false, false, false, false, false, false, false, false, false] rfl rfl (any_of HT_.out (by kernel_rfl)) (fun _ _ _ h => h) (Or.inl ⟨by rfl, ?_⟩) ?_ ?_
     rotate_left
     · intro w'
       go_simp
       with_reducible rfl
     rotate_left
     · simp only [Act.put, sA_, sB_, sC_, i64_w, i32_w]
       rfl
     refine pure_ (i := 20) (N := (some 214)) (v := ?_) (a' := ?_) #[true, true, true, true, true, true, true, true, true, true, true, true, true, true, true, true, true, false, false, false, true, false, false, false, false, false, false, false, false, false, false, false, false, false, false, false, false] rfl rfl (any_of HT_.out (by kernel_rfl)) (fun _ _ _ h => h) (Or.inl ⟨by rfl, ?_⟩) ?_ ?_
     rotate_left
     · intro w'
       go_simp
       with_reducible rfl
     rotate_left
     · simp only [Act.put, sA_, sB_, sC_, i64_w, i32_w]
       rfl
     refine pure_ (i := 21) (N := (some 215)) (v := ?_) (a' := ?_) #[true, true, true, true, true, true, true, true, true, true, true, true, true, true, true, true, true, false, false, false, true, true, false, false, false, false, false, false, false, false, false, false, false, false, false, false, false] rfl rfl (any_of HT_.out (by kernel_rfl)) (fun _ _ _ h => h) (Or.inl ⟨by rfl, ?_⟩) ?_ ?_
     rotate_left
     · intro w'
       go_simp
       with_reducible rfl
     rotate_left
     · simp only [Act.put, sA_, sB_, sC_, i64_w, i32_w]
       rfl
     refine pure_ (i := 22) (N := (some 216)) (v := ?_) (a' := ?_) #[true, true, true, true, true, true, true, true, true, true, true, true, true, true, true, true, true, false, false, false, true, true, true, false, false, false, false, false, false, false, false, false, false, false, false, false, false] rfl rfl (any_of HT_.out (by kernel_rfl)) (fun _ _ _ h => h) (Or.inl ⟨by rfl, ?_⟩) ?_ ?_
     rotate_left
     · intro w'
       go_simp
       with_reducible rfl
     rotate_left
     · simp only [Act.put, sA_, sB_, sC_, i64_w, i32_w]
       rfl
     refine take_ (i := 23) (N := (some 217)) (v := ?_) (a' := ?_) #[true, true, true, true, true, true, true, true, true, true, true, true, true, true, true, true, true, false, false, false, true, true, true, true, false, false, false, false, false, false, false, false, false, false, false, false, false] rfl rfl (take_ofW HT_.out HW_.out (by kernel_rfl)) (fun _ _ _ h => h) (Or.inl ⟨by rfl, ?_⟩) hHeld ?_ ?_
     rotate_left
     · rintro w' ⟨s0, s1, s2, s3_⟩
       go_simp
       with_reducible rfl
     rotate_left
     · simp only [Act.put, sA_, sB_, sC_, i64_w, i32_w]
       rfl
     refine take_ (i := 24) (N := (some 218)) (v := ?_) (a' := ?_) #[true, true, true, true, true, true, true, true, true, true, true, true, true, true, true, true, true, false, false, false, true, true, true, true, true, false, false, false, false, false, false, false, false, false, false, false, false] rfl rfl (take_ofW HT_.out HW_.out (by kernel_rfl)) (fun _ _ _ h => h) (Or.inl ⟨by rfl, ?_⟩) hHeld ?_ ?_
     rotate_left
     · rintro w' ⟨s0, s1, s2, s3_⟩
       go_simp
       with_reducible rfl
     rotate_left
     · simp only [Act.put, sA_, sB_, sC_, i64_w, i32_w]
       rfl
     refine one_ (i := 17) (N := (some 211)) #[true, true, true, true, true, true, true, true, true, true, true, true, true, true, true, true, true, true, false, false, true, true, true, true, true, false, false, false, false, false, false, false, false, false, false, false, false] rfl rfl (one_of HT_.out (by kernel_rfl)) (by decide) (fun K hK => ?_)
     refine goes_ Try.func86 (by kernel_rfl) rfl #[.pointer (some ⟨J3, 0, none⟩)] (by rfl) rfl rfl (by (try simp only [List.map_toArray, List.map_cons, List.map_nil]); first | done | rfl) ?_
     refine (jdisk_is HPc.out.one).mono ?_
     rintro e w' ⟨rfl, rfl⟩
     refine ⟨_, rfl, ?_⟩
     refine hK.out _ _ HPc.out.two.reads (fun hHeld => ?_)
     clear hK K
     refine norm_ (a' := ?_) ?_ ?_
     rotate_left
     · show Act.put _ (some 211) _ = _
       simp only [Act.put, sA_, sB_, sC_, i64_w, i32_w]
       rfl
     refine one_ (i := 18) (N := (some 212)) #[true, true, true, true, true, true, true, true, true, true, true, true, true, true, true, true, true, true, true, false, true, true, true, true, true, false, false, false, false, false, false, false, false, false, false, false, false] rfl rfl (one_of HT_.out (by kernel_rfl)) (by decide) (fun K hK => ?_)
     refine goes_ Try.func38 (by kernel_rfl) rfl #[.pointer (some ⟨w.heap.size, 0, none⟩)] (by rfl) rfl rfl (by (try simp only [List.map_toArray, List.map_cons, List.map_nil]); first | done | rfl) ?_
     refine (bytes_is HPc.out.one.disk).mono ?_
     rintro e Wd ⟨u8, rfl, hr, hb⟩
     obtain ⟨A8, k8, rfl, hk8, hc8⟩ := Kd.R_reads hr
     refine ⟨_, rfl, ?_⟩
     have HPd := Lib.hid (HPc.out.below hb (Nat.le_refl _))
     have HBd := Lib.hid (HBc.out.trans (hb.mono HBc.out.size))
     have t8 := str_of (c := k8) hc8
     clear hr hb hc8 hk8
     refine hK.out _ _ HPd.out.two.reads (fun hHeld => ?_)
     clear hK K
     refine norm_ (a' := ?_) ?_ ?_
     rotate_left
     · show Act.put _ (some 212) _ = _
       simp only [Act.put, sA_, sB_, sC_, i64_w, i32_w]
       rfl
     refine one_ (i := 19) (N := (some 213)) #[true, true, true, true, true, true, true, true, true, true, true, true, true, true, true, true, true, true, true, true, true, true, true, true, true, false, false, false, false, false, false, false, false, false, false, false, false] rfl rfl (one_of HT_.out (by kernel_rfl)) (by decide) (fun K hK => ?_)
     refine value_ (w1 := ?_) (v := ?_) (by rfl) rfl ?_ ?_
     rotate_left 2
     · go_simp
       constructor
       · rfl
       · rfl
     refine hK.out _ _ HPd.out.two.reads (fun hHeld => ?_)
     clear hK K
     refine norm_ (a' := ?_) ?_ ?_
     rotate_left
     · show Act.put _ (some 213) _ = _
       simp only [Act.put, sA_, sB_, sC_, i64_w, i32_w]
       rfl
     refine pure_ (i := 25) (N := (some 219)) (v := ?_) (a' := ?_) #[true, true, true, true, true, true, true, true, true, true, true, true, true, true, true, true, true, true, true, true, true, true, true, true, true, true, false, false, false, false, false, false, false, false, false, false, false] rfl rfl (any_of HT_.out (by kernel_rfl)) (fun _ _ _ h => h) (Or.inl ⟨by rfl, ?_⟩) ?_ ?_
     rotate_left
     · intro w'
       go_simp
       with_reducible rfl
     rotate_left
     · simp only [Act.put, sA_, sB_, sC_, i64_w, i32_w]
       rfl
     refine pure_ (i := 26) (N := (some 220)) (v := ?_) (a' := ?_) #[true, true, true, true, true, true, true, true, true, true, true, true, true, true, true, true, true, true, true, true, true, true, true, true, true, true, true, false, false, false, false, false, false, false, false, false, false] rfl rfl (any_of HT_.out (by kernel_rfl)) (fun _ _ _ h => h) (Or.inl ⟨by rfl, ?_⟩) ?_ ?_
     rotate_left
     · intro w'
       go_simp
       with_reducible rfl
     rotate_left
     · simp only [Act.put, sA_, sB_, sC_, i64_w, i32_w]
       rfl
     refine pure_ (i := 27) (N := (some 221)) (v := ?_) (a' := ?_) #[true, true, true, true, true, true, true, true, true, true, true, true, true, true, true, true, true, true, true, true, true, true, true, true, true, true, true, true, false, false, false, false, false, false, false, false, false] rfl rfl (any_of HT_.out (by kernel_rfl)) (fun _ _ _ h => h) (Or.inl ⟨by rfl, ?_⟩) ?_ ?_
     rotate_left
     · intro w'
       go_simp
       with_reducible rfl
     rotate_left
     · simp only [Act.put, sA_, sB_, sC_, i64_w, i32_w]
       rfl
     refine pure_ (i := 28) (N := (some 222)) (v := ?_) (a' := ?_) #[true, true, true, true, true, true, true, true, true, true, true, true, true, true, true, true, true, true, true, true, true, true, true, true, true, true, true, true, true, false, false, false, false, false, false, false, false] rfl rfl (any_of HT_.out (by kernel_rfl)) (fun _ _ _ h => h) (Or.inl ⟨by rfl, ?_⟩) ?_ ?_
     rotate_left
     · intro w'
       go_simp
       with_reducible rfl
     rotate_left
     · simp only [Act.put, sA_, sB_, sC_, i64_w, i32_w]
       rfl
     refine pure_ (i := 31) (N := (some 225)) (v := ?_) (a' := ?_) #[true, true, true, true, true, true, true, true, true, true, true, true, true, true, true, true, true, true, true, true, true, true, true, true, true, true, true, true, true, false, false, true, false, false, false, false, false] rfl rfl (any_of HT_.out (by kernel_rfl)) (fun _ _ _ h => h) (Or.inl ⟨by rfl, ?_⟩) ?_ ?_
     rotate_left
     · intro w'
       go_simp
       with_reducible rfl
     rotate_left
     · simp only [Act.put, sA_, sB_, sC_, i64_w, i32_w]
       rfl
     refine pure_ (i := 32) (N := (some 226)) (v := ?_) (a' := ?_) #[true, true, true, true, true, true, true, true, true, true, true, true, true, true, true, true, true, true, true, true, true, true, true, true, true, true, true, true, true, false, false, true, true, false, false, false, false] rfl rfl (any_of HT_.out (by kernel_rfl)) (fun _ _ _ h => h) (Or.inl ⟨by rfl, ?_⟩) ?_ ?_
     rotate_left
     · intro w'
       go_simp
       with_reducible rfl
     rotate_left
     · simp only [Act.put, sA_, sB_, sC_, i64_w, i32_w]
       rfl
     refine pure_ (i := 33) (N := (some 227)) (v := ?_) (a' := ?_) #[true, true, true, true, true, true, true, true, true, true, true, true, true, true, true, true, true, true, true, true, true, true, true, true, true, true, true, true, true, false, false, true, true, true, false, false, false] rfl rfl (any_of HT_.out (by kernel_rfl)) (fun _ _ _ h => h) (Or.inl ⟨by rfl, ?_⟩) ?_ ?_
     rotate_left
     · intro w'
       go_simp
       with_reducible rfl
     rotate_left
     · simp only [Act.put, sA_, sB_, sC_, i64_w, i32_w]
       rfl
     refine take_ (i := 34) (N := (some 228)) (v := ?_) (a' := ?_) #[true, true, true, true, true, true, true, true, true, true, true, true, true, true, true, true, true, true, true, true, true, true, true, true, true, true, true, true, true, false, false, true, true, true, true, false, false] rfl rfl (take_ofW HT_.out HW_.out (by kernel_rfl)) (fun _ _ _ h => h) (Or.inl ⟨by rfl, ?_⟩) hHeld ?_ ?_
     rotate_left
     · rintro w' ⟨s0, s1, s2, s3_⟩
       go_simp
       with_reducible rfl
     rotate_left
     · simp only [Act.put, sA_, sB_, sC_, i64_w, i32_w]
       rfl
     refine one_ (i := 29) (N := (some 223)) #[true, true, true, true, true, true, true, true, true, true, true, true, true, true, true, true, true, true, true, true, true, true, true, true, true, true, true, true, true, true, false, true, true, true, true, false, false] rfl rfl (one_of HT_.out (by kernel_rfl)) (by decide) (fun K hK => ?_)
     refine goes_ Try.func86 (by kernel_rfl) rfl #[.pointer (some ⟨J3, 0, none⟩)] (by rfl) rfl rfl (by (try simp only [List.map_toArray, List.map_cons, List.map_nil]); first | done | rfl) ?_
     refine (jdisk_is HPd.out.one).mono ?_
     rintro e w' ⟨rfl, rfl⟩
     refine ⟨_, rfl, ?_⟩
     refine hK.out _ _ HPd.out.two.reads (fun hHeld => ?_)
     clear hK K
     refine norm_ (a' := ?_) ?_ ?_
     rotate_left
     · show Act.put _ (some 223) _ = _
       simp only [Act.put, sA_, sB_, sC_, i64_w, i32_w]
       rfl
     refine one_ (i := 30) (N := (some 224)) #[true, true, true, true, true, true, true, true, true, true, true, true, true, true, true, true, true, true, true, true, true, true, true, true, true, true, true, true, true, true, true, true, true, true, true, false, false] rfl rfl (one_of HT_.out (by kernel_rfl)) (by decide) (fun K hK => ?_)
     refine goes_ Try.func40 (by kernel_rfl) rfl #[.pointer (some ⟨w.heap.size, 0, none⟩)] (by rfl) rfl rfl (by (try simp only [List.map_toArray, List.map_cons, List.map_nil]); first | done | rfl) ?_
     refine (sure_is HPd.out.one.disk).mono ?_
     rintro e w' ⟨rfl, rfl⟩
     refine ⟨_, rfl, ?_⟩
     refine hK.out _ _ HPd.out.two.reads (fun hHeld => ?_)
     clear hK K
     refine norm_ (a' := ?_) ?_ ?_
     rotate_left
     · show Act.put _ (some 224) _ = _
       simp only [Act.put, sA_, sB_, sC_, i64_w, i32_w]
       rfl
     refine pure_ (i := 35) (N := (some 229)) (v := ?_) (a' := ?_) #[true, true, true, true, true, true, true, true, true, true, true, true, true, true, true, true, true, true, true, true, true, true, true, true, true, true, true, true, true, true, true, true, true, true, true, true, false] rfl rfl (any_of HT_.out (by kernel_rfl)) (fun _ _ _ h => h) (Or.inl ⟨by rfl, ?_⟩) ?_ ?_
     rotate_left
     · intro w'
       go_simp
       with_reducible rfl
     rotate_left
     · simp only [Act.put, sA_, sB_, sC_, i64_w, i32_w]
       rfl
     refine pure_ (i := 36) (N := (some 230)) (v := ?_) (a' := ?_) #[true, true, true, true, true, true, true, true, true, true, true, true, true, true, true, true, true, true, true, true, true, true, true, true, true, true, true, true, true, true, true, true, true, true, true, true, true] rfl rfl (any_of HT_.out (by kernel_rfl)) (fun _ _ _ h => h) (Or.inl ⟨by rfl, ?_⟩) ?_ ?_
     rotate_left
     · intro w'
       go_simp
       with_reducible rfl
     rotate_left
     · simp only [Act.put, sA_, sB_, sC_, i64_w, i32_w]
       rfl
     refine done_ (done_of HT_.out (by kernel_rfl)) ?_
     go_wp2_with (fail)
     go_roundg (51 - (i + 1))
     case measure => omega
     case rel => exact ⟨i + 1, J3, J4, _, _, _, _, ys, _, rfl, rfl, by go_num, by omega, rfl, HF3, Lib.hid (by rw [HES.out, HBB.out]; exact HPd.out), HBd⟩
  · have q : ¬ i < ks.length ∨ (i < ks.length ∧ ¬ i < ps.length) ∨ (i < ks.length ∧ i < ps.length ∧ ¬ i < ns.length) ∨ (i < ks.length ∧ i < ps.length ∧ i < ns.length ∧ ¬ i < 50) := by omega
    clear hlt
    rcases q with q1 | ⟨q1, q2⟩ | ⟨q1, q2, q3⟩ | ⟨q1, q2, q3, q4⟩
    all_goals
     go_wp2_with (go_at_call 71; refine (awake18_is _).mono ?_; rintro e w2 ⟨rfl, hb⟩; have HBA := Lib.hid hb; clear hb)
     go_ret
     exact ⟨rfl, HB.out.trans (HBA.out.mono HB.out.size)⟩
end Go.Proofs.Ytmbnjgnmblgjoaa.Man
end
