/- codec's writer: an entry's bytes. -/
import Derived.Test.YtmbnjgnmblgjoaaPutDoc
namespace Go.Proofs.Ytmbnjgnmblgjoaa.Man
open Go.RowKit Go.Proofs.YtmbnjgnmblgjoaaW.PrintWords Go.Proofs.YtmbnjgnmblgjoaaW.PrintLast Go.Proofs.YtmbnjgnmblgjoaaW.PrintMore
set_option linter.unusedVariables false
set_option linter.unusedSimpArgs false
set_option maxRecDepth 100000

/-- Numbers that a variadic call has laid in a new row. -/
theorem C_lit (w : World) (k : IntKind) (l : List Int) (cs : Array Value) (t : TypeId) (h : cs.toList = l.map (Value.int k)) (hl : l.length ≤ 100) : Kd.C (Kd.int k) (w.alloc (.cells cs t)) (some ⟨w.heap.size, 0, none⟩) l.length l :=
  Kd.C_of_reads (d := (0 : Int)) (h1 := fun _ => rfl) ⟨rfl, by omega, fun _ => ⟨_, rfl, fun j hj => by
    rw [Addr.add_lit, cell_of_row _ w.heap.size _ _ _ (0, 0) (World.alloc_heap_new w _)]
    rw [Nat.zero_add, ← Array.getElem?_toList, h, List.getElem?_map, List.getD_eq_getElem?_getD, List.getElem?_eq_getElem hj]
    rfl⟩⟩
theorem vbs_le (l : List Int) (h : ∀ i, i < l.length → 0 ≤ l.getD i 0 ∧ l.getD i 0 < 9223372036854775808) : (vbs l).length ≤ 10 * l.length := by
  induction l with
  | nil => simp [vbs]
  | cons a l ih =>
    have h0 := h 0 (by simp)
    have h1 := ih fun i hi => by have := h (i + 1) (by simpa using hi); simpa using this
    simp only [List.getD_cons_zero] at h0
    have h2 := vb_le10 a.toNat (by omega)
    have e : vbs (a :: l) = vb a.toNat ++ vbs l := rfl
    rw [e, List.length_append, List.length_cons]
    omega
/-- Numbers more, laid in a row by the call. -/
theorem numL {w : World} {base B : Nat} {xs : List Int} (hW : WrS w base B xs) (hB : base ≤ B) (hbase : base ≤ w.heap.size) (l : List Int) (cs : Array Value) (hcs : cs.toList = l.map (Value.int .i64)) (hl : l.length ≤ 5)
    (hn : ∀ i, i < l.length → 0 ≤ l.getD i 0 ∧ l.getD i 0 < 9223372036854775808) (hroom : xs.length ≤ 100000000000000) :
    Calls Try.prog 110 #[.pointer (some ⟨B, 0, none⟩), .slice (some ⟨w.heap.size, 0, none⟩) l.length l.length] (w.alloc (.cells cs 3)) fun e w' => e = .returned (.tuple #[]) ∧ WrS w' base B (xs ++ vbs l) ∧ w.grownBy w' (some B) := by
  have hBl := hW.lt
  have hbe : Below base w (w.alloc (.cells cs 3)) := (Below.refl _ _).alloc hbase _
  have hbe2 : Below w.heap.size w (w.alloc (.cells cs 3)) := (Below.refl _ _).alloc (Nat.le_refl _) _
  have hsz : (w.alloc (.cells cs 3)).heap.size = w.heap.size + 1 := World.size_alloc _ _
  have hll := vbs_le l hn
  refine (num_is (hW.below hbe2 (Nat.le_refl _)) (some ⟨w.heap.size, 0, none⟩) l.length l (C_lit w .i64 l cs 3 hcs (by omega)) (fun ad e => by cases e; exact ⟨fun e2 => (by have : w.heap.size = B := e2; omega), (by show w.heap.size < _; rw [hsz]; omega)⟩) hn (by rw [List.length_append]; omega) (by rw [hsz]; omega)).mono ?_
  rintro e w1 ⟨rfl, hw, hg⟩
  exact ⟨rfl, hw, (grown_of_below hbe2 _).trans hg⟩

/-- An entry's bytes. -/
def entryB (x : K.S26) : List Int :=
  vbs [x.f0, x.f1, x.f2.f0, x.f2.f1, x.f2.f2] ++ (if x.f2.f0 = 2 ∨ x.f2.f0 = 3 then vbs [x.f2.f7] else if x.f2.f0 = 1 then vbs [x.f2.f3, x.f2.f4, x.f2.f5] ++ docB x.f2.f6 else docB x.f2.f6)
/-- An entry that may be written. -/
structure EntOk (x : K.S26) : Prop where
  who : 0 ≤ x.f0 ∧ x.f0 < 2147483648
  seq : 0 ≤ x.f1 ∧ x.f1 < 2147483648
  k : 0 ≤ x.f2.f0 ∧ x.f2.f0 ≤ 3
  from_ : 0 ≤ x.f2.f1 ∧ x.f2.f1 < 2147483648
  to_ : 0 ≤ x.f2.f2 ∧ x.f2.f2 < 2147483648
  gf : 0 ≤ x.f2.f3 ∧ x.f2.f3 < 2147483648
  gt : 0 ≤ x.f2.f4 ∧ x.f2.f4 < 2147483648
  ins : 0 ≤ x.f2.f5 ∧ x.f2.f5 < 2147483648
  mark : 0 ≤ x.f2.f7 ∧ x.f2.f7 < 2147483648
  len : x.f2.f6.length ≤ 2048
  toks : ∀ t ∈ x.f2.f6, TokOk t

theorem getD_lt5 (a b c d e : Int) (ha : 0 ≤ a ∧ a < 9223372036854775808) (hb : 0 ≤ b ∧ b < 9223372036854775808) (hc : 0 ≤ c ∧ c < 9223372036854775808) (hd : 0 ≤ d ∧ d < 9223372036854775808) (he : 0 ≤ e ∧ e < 9223372036854775808) :
    ∀ i, i < [a, b, c, d, e].length → 0 ≤ [a, b, c, d, e].getD i 0 ∧ [a, b, c, d, e].getD i 0 < 9223372036854775808 := by
  intro i hi
  match i, hi with
  | 0, _ => exact ha
  | 1, _ => exact hb
  | 2, _ => exact hc
  | 3, _ => exact hd
  | 4, _ => exact he
theorem getD_lt3 (a b c : Int) (ha : 0 ≤ a ∧ a < 9223372036854775808) (hb : 0 ≤ b ∧ b < 9223372036854775808) (hc : 0 ≤ c ∧ c < 9223372036854775808) :
    ∀ i, i < [a, b, c].length → 0 ≤ [a, b, c].getD i 0 ∧ [a, b, c].getD i 0 < 9223372036854775808 := by
  intro i hi
  match i, hi with
  | 0, _ => exact ha
  | 1, _ => exact hb
  | 2, _ => exact hc
theorem getD_lt1 (a : Int) (ha : 0 ≤ a ∧ a < 9223372036854775808) : ∀ i, i < [a].length → 0 ≤ [a].getD i 0 ∧ [a].getD i 0 < 9223372036854775808 := by
  intro i hi
  match i, hi with
  | 0, _ => exact ha
theorem docB_le (l : List K.S111) (hl : l.length ≤ 2048) (h : ∀ x ∈ l, TokOk x) : (docB l).length ≤ 40970 := by
  have h1 := toks_le l h
  have h2 := vb_le10 l.length (by omega)
  unfold docB
  rw [List.length_append]
  omega
theorem entryB_le (x : K.S26) (h : EntOk x) : (entryB x).length ≤ 41100 := by
  obtain ⟨h1, h2, h3, h4, h5, h6, h7, h8, h9, h10, h11⟩ := h
  have a := vbs_le _ (getD_lt5 x.f0 x.f1 x.f2.f0 x.f2.f1 x.f2.f2 (by omega) (by omega) (by omega) (by omega) (by omega))
  have b := vbs_le _ (getD_lt3 x.f2.f3 x.f2.f4 x.f2.f5 (by omega) (by omega) (by omega))
  have c := vbs_le _ (getD_lt1 x.f2.f7 (by omega))
  have d := docB_le _ h10 h11
  simp only [List.length_cons, List.length_nil] at a b c
  unfold entryB
  rw [List.length_append]
  split
  · omega
  · split
    · rw [List.length_append]; omega
    · omega

/-- A step that lies in a block. -/
def StepAt (w : World) (P : Nat) (k f t gf gt ins : Int) (A : Option Addr) (n c : Nat) (m : Int) : Prop := w.heap[P]? = some (.cells #[.int .i64 k, .int .i64 f, .int .i64 t, .int .i64 gf, .int .i64 gt, .int .i64 ins, .slice A n c, .int .i64 m] 24 (0, 0))
theorem StepAt.c0 {w : World} {P n c : Nat} {k f t gf gt ins m : Int} {A : Option Addr} (h : StepAt w P k f t gf gt ins A n c m) : w.cell? ⟨P, 0, none⟩ = some (.int .i64 k) := by simp [World.cell?, show w.heap[P]? = _ from h]
theorem StepAt.c3 {w : World} {P n c : Nat} {k f t gf gt ins m : Int} {A : Option Addr} (h : StepAt w P k f t gf gt ins A n c m) : w.cell? ⟨P, 3, none⟩ = some (.int .i64 gf) := by simp [World.cell?, show w.heap[P]? = _ from h]
theorem StepAt.c4 {w : World} {P n c : Nat} {k f t gf gt ins m : Int} {A : Option Addr} (h : StepAt w P k f t gf gt ins A n c m) : w.cell? ⟨P, 4, none⟩ = some (.int .i64 gt) := by simp [World.cell?, show w.heap[P]? = _ from h]
theorem StepAt.c5 {w : World} {P n c : Nat} {k f t gf gt ins m : Int} {A : Option Addr} (h : StepAt w P k f t gf gt ins A n c m) : w.cell? ⟨P, 5, none⟩ = some (.int .i64 ins) := by simp [World.cell?, show w.heap[P]? = _ from h]
theorem StepAt.c6 {w : World} {P n c : Nat} {k f t gf gt ins m : Int} {A : Option Addr} (h : StepAt w P k f t gf gt ins A n c m) : w.cell? ⟨P, 6, none⟩ = some (.slice A n c) := by simp [World.cell?, show w.heap[P]? = _ from h]
theorem StepAt.c7 {w : World} {P n c : Nat} {k f t gf gt ins m : Int} {A : Option Addr} (h : StepAt w P k f t gf gt ins A n c m) : w.cell? ⟨P, 7, none⟩ = some (.int .i64 m) := by simp [World.cell?, show w.heap[P]? = _ from h]
theorem StepAt.lt {w : World} {P n c : Nat} {k f t gf gt ins m : Int} {A : Option Addr} (h : StepAt w P k f t gf gt ins A n c m) : P < w.heap.size := (Array.getElem?_eq_some_iff.1 h).1
theorem StepAt.grown {w w1 : World} {P n c B : Nat} {k f t gf gt ins m : Int} {A : Option Addr} (h : StepAt w P k f t gf gt ins A n c m) (hg : w.grownBy w1 (some B)) (hB : B < P) : StepAt w1 P k f t gf gt ins A n c m :=
  (hg.block _ h.lt (by intro e; cases e; omega)).trans h
theorem below_of_grown {w0 w w1 : World} {B : Nat} (hb : Below w0.heap.size w0 w) (hg : w.grownBy w1 (some B)) (hB : w0.heap.size ≤ B) : Below w0.heap.size w0 w1 :=
  hb.grown hg hb.size fun k e => by cases e; exact hB

set_option maxHeartbeats 8000000 in
theorem wentry_is {w0 w : World} {base B : Nat} {xs : List Int} (hW : WrS w base B xs) (hB : base ≤ B) (hbase : base ≤ w.heap.size) (x : K.S26) (A : Option Addr) (c : Nat) (hC : Kd.C K.k111 w0 A x.f2.f6.length x.f2.f6) (hb : Below w0.heap.size w0 w) (h0 : w0.heap.size ≤ base)
    (hok : EntOk x) (hroom : xs.length ≤ 80000000000000) :
    Calls Try.prog 88 #[.pointer (some ⟨B, 0, none⟩), .agg #[.int .i64 x.f0, .int .i64 x.f1, .int .i64 x.f2.f0, .int .i64 x.f2.f1, .int .i64 x.f2.f2, .int .i64 x.f2.f3, .int .i64 x.f2.f4, .int .i64 x.f2.f5, .slice A x.f2.f6.length c, .int .i64 x.f2.f7]] w
      fun e w' => e = .returned (.tuple #[]) ∧ WrS w' base B (xs ++ entryB x) ∧ w.grownBy w' (some B) := by
  obtain ⟨who, seq, ⟨k, f, t, gf, gt, ins, sl, m⟩⟩ := x
  obtain ⟨h1, h2, h3, h4, h5, h6, h7, h8, h9, h10, h11⟩ := hok
  simp only at h1 h2 h3 h4 h5 h6 h7 h8 h9 h10 h11 hC ⊢
  unfold entryB
  simp only
  have hBl := hW.lt
  obtain ⟨w1, hw1⟩ : ∃ w1, w1 = w.alloc (.cells #[.int .i64 who, .int .i64 seq, .int .i64 k, .int .i64 f, .int .i64 t, .int .i64 gf, .int .i64 gt, .int .i64 ins, .slice A sl.length c, .int .i64 m] 26) := ⟨_, rfl⟩
  have hb1 : Below w.heap.size w w1 := by rw [hw1]; exact (Below.refl _ _).alloc (Nat.le_refl _) _
  have hz1 : w1.heap.size = w.heap.size + 1 := by rw [hw1]; exact World.size_alloc _ _
  obtain ⟨w2, hw2⟩ : ∃ w2, w2 = w1.alloc (.cells #[.int .i64 k, .int .i64 f, .int .i64 t, .int .i64 gf, .int .i64 gt, .int .i64 ins, .slice A sl.length c, .int .i64 m] 24) := ⟨_, rfl⟩
  have hb2 : Below w1.heap.size w1 w2 := by rw [hw2]; exact (Below.refl _ _).alloc (Nat.le_refl _) _
  have hz2 : w2.heap.size = w.heap.size + 2 := by rw [hw2, World.size_alloc]; omega
  have hS2 : StepAt w2 (w.heap.size + 1) k f t gf gt ins A sl.length c m := by rw [← hz1, hw2]; exact World.alloc_heap_new w1 _
  have hg2 : w.grownBy w2 (some B) := (grown_of_below hb1 _).trans (grown_of_below hb2 _)
  have hn5 := getD_lt5 who seq k f t (by omega) (by omega) (by omega) (by omega) (by omega)
  have hbl5 := vbs_le _ hn5
  simp only [List.length_cons, List.length_nil] at hbl5
  have hW2 := (hW.below hb1 (Nat.le_refl _)).below hb2 (Nat.le_refl _)
  have hnum := numL hW2 hB (by omega) [who, seq, k, f, t] #[.int .i64 who, .int .i64 seq, .int .i64 k, .int .i64 f, .int .i64 t] rfl (by simp) hn5 (by omega)
  rw [hz2, hw2, hw1] at hnum
  obtain ⟨ys, hys⟩ : ∃ ys, xs ++ vbs [who, seq, k, f, t] = ys := ⟨_, rfl⟩
  have hyl : ys.length ≤ 80000000001000 := by rw [← hys, List.length_append]; omega
  rw [hys] at hnum
  rw [← List.append_assoc, hys]
  have HNUM := Lib.hid hnum
  have HG2 := Lib.hid hg2
  have HS2 := Lib.hid hS2
  have HC := Lib.hid hC
  have HBB := Lib.hid hb
  have HTOK := Lib.hid h11
  have HW12 : Hid (w2 = (w.alloc (.cells #[.int .i64 who, .int .i64 seq, .int .i64 k, .int .i64 f, .int .i64 t, .int .i64 gf, .int .i64 gt, .int .i64 ins, .slice A sl.length c, .int .i64 m] 26)).alloc (.cells #[.int .i64 k, .int .i64 f, .int .i64 t, .int .i64 gf, .int .i64 gt, .int .i64 ins, .slice A sl.length c, .int .i64 m] 24)) := Lib.hid (by rw [hw2, hw1])
  clear hW hC hb hnum hg2 hS2 h11 hys hW2 hbl5 hn5 hb1 hb2 hw1 hw2 hz1 hz2
  go_enter Try.func88, Try.ntmps88
  go_upto_region 4 with (go_at_call 110; refine HNUM.out.mono ?_; rintro e w3 ⟨rfl, hw, hg⟩; rw [← HW12.out] at hg; have HX3 := Lib.hid hw; have HG3 := Lib.hid (HG2.out.trans hg); have HS3 := Lib.hid (HS2.out.grown hg (by omega)); have d0 := HS3.out.c0; have d3 := HS3.out.c3; have d4 := HS3.out.c4; have d5 := HS3.out.c5; have d6 := HS3.out.c6; have d7 := HS3.out.c7; clear hw hg)
  rcases (show k = 2 ∨ k = 3 ∨ k = 1 ∨ k = 0 by omega) with rfl | rfl | rfl | rfl
  · obtain ⟨M, rfl⟩ : ∃ M : Nat, m = (M : Int) := ⟨m.toNat, by omega⟩
    have HB3 : Hid (base ≤ w3.heap.size) := Lib.hid (Nat.le_trans hbase HG3.out.size)
    have HM : Hid (M < 9223372036854775808) := Lib.hid (by omega)
    go_wp2_with (go_at_call 110; refine (num1 HX3.out hB HB3.out M HM.out (by omega)).mono ?_; rintro e w4 ⟨rfl, hw, hg⟩; have HX4 := Lib.hid hw; have HG4 := Lib.hid (HG3.out.trans hg); clear hw hg)
    refine bodyPost_ret (results_none rfl _ _ _) rfl ?_
    exact ⟨rfl, by (try rw [if_pos (by simp)]); rw [vbs_one]; exact HX4.out, HG4.out⟩
  · obtain ⟨M, rfl⟩ : ∃ M : Nat, m = (M : Int) := ⟨m.toNat, by omega⟩
    have HB3 : Hid (base ≤ w3.heap.size) := Lib.hid (Nat.le_trans hbase HG3.out.size)
    have HM : Hid (M < 9223372036854775808) := Lib.hid (by omega)
    go_wp2_with (go_at_call 110; refine (num1 HX3.out hB HB3.out M HM.out (by omega)).mono ?_; rintro e w4 ⟨rfl, hw, hg⟩; have HX4 := Lib.hid hw; have HG4 := Lib.hid (HG3.out.trans hg); clear hw hg)
    refine bodyPost_ret (results_none rfl _ _ _) rfl ?_
    exact ⟨rfl, by (try rw [if_pos (by simp)]); rw [vbs_one]; exact HX4.out, HG4.out⟩
  · have HB3 : Hid (base ≤ w3.heap.size) := Lib.hid (Nat.le_trans hbase HG3.out.size)
    have hn3 := getD_lt3 gf gt ins (by omega) (by omega) (by omega)
    have hbl3 := vbs_le _ hn3
    simp only [List.length_cons, List.length_nil] at hbl3
    have HNUM3 := Lib.hid (numL HX3.out hB HB3.out [gf, gt, ins] #[.int .i64 gf, .int .i64 gt, .int .i64 ins] rfl (by simp) hn3 (by omega))
    obtain ⟨zs, hzs⟩ : ∃ zs, ys ++ vbs [gf, gt, ins] = zs := ⟨_, rfl⟩
    have hzl : zs.length ≤ 80000000002000 := by rw [← hzs, List.length_append]; omega
    rw [hzs] at HNUM3
    have HZS := Lib.hid hzs
    clear hzs hn3 hbl3
    go_wp2_with (first
      | (go_at_call 110; refine HNUM3.out.mono ?_; rintro e w4 ⟨rfl, hw, hg⟩; have HX4 := Lib.hid hw; have HG4 := Lib.hid (HG3.out.trans hg); have HS4 := Lib.hid (HS3.out.grown hg (by omega)); have e6 := HS4.out.c6; clear hw hg)
      | (go_at_call 104; refine (wdoc_is HX4.out hB (Nat.le_trans hbase HG4.out.size) A c sl HC.out (below_of_grown HBB.out HG4.out (by omega)) h0 h10 HTOK.out (by omega)).mono ?_; rintro e w5 ⟨rfl, hw, hg⟩; have HX5 := Lib.hid hw; have HG5 := Lib.hid (HG4.out.trans hg); clear hw hg))
    go_end0
    exact ⟨rfl, by (try rw [if_neg (by simp)]); (try rw [if_pos rfl]); rw [← List.append_assoc, HZS.out]; exact HX5.out, HG5.out⟩
  · go_wp2_with (go_at_call 104; refine (wdoc_is HX3.out hB (Nat.le_trans hbase HG3.out.size) A c sl HC.out (below_of_grown HBB.out HG3.out (by omega)) h0 h10 HTOK.out (by omega)).mono ?_; rintro e w4 ⟨rfl, hw, hg⟩; have HX4 := Lib.hid hw; have HG4 := Lib.hid (HG3.out.trans hg); clear hw hg)
    go_end0
    exact ⟨rfl, by (try rw [if_neg (by simp)]); (try rw [if_neg (by simp)]); exact HX4.out, HG4.out⟩
end Go.Proofs.Ytmbnjgnmblgjoaa.Man
