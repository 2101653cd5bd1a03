/- A store's newest slot (layer 30). Printed by wip/tools/gen_newest.py from XNewest.base. -/
import Derived.Test.YtmbnjgnmblgjoaaSnap
import Derived.Test.YtmbnjgnmblgjoaaWTab
import Derived.Test.YtmbnjgnmblgjoaaWN
namespace Go.Proofs.Ytmbnjgnmblgjoaa.Man
open Go.RowKit Go.Proofs.YtmbnjgnmblgjoaaW.PrintWords Go.Proofs.YtmbnjgnmblgjoaaW.PrintLast Go.Proofs.YtmbnjgnmblgjoaaW.PrintMore
set_option linter.unusedVariables false
set_option linter.unusedSimpArgs false
set_option maxRecDepth 100000

def StoreS (w : World) (S BX BY : Nat) : Prop := w.heap[S]? = some (.cells #[.pointer (some ⟨BX, 0, none⟩), .pointer (some ⟨BY, 0, none⟩)] 163 (0, 0))
theorem StoreS.c0 {w : World} {S BX BY : Nat} (k : StoreS w S BX BY) : w.cell? ⟨S, 0, none⟩ = some (.pointer (some ⟨BX, 0, none⟩)) := by simp [World.cell?, show w.heap[S]? = _ from k]
theorem StoreS.c1 {w : World} {S BX BY : Nat} (k : StoreS w S BX BY) : w.cell? ⟨S, 1, none⟩ = some (.pointer (some ⟨BY, 0, none⟩)) := by simp [World.cell?, show w.heap[S]? = _ from k]
theorem StoreS.lt {w : World} {S BX BY : Nat} (k : StoreS w S BX BY) : S < w.heap.size := (Array.getElem?_eq_some_iff.1 k).1
theorem StoreS.move {w w1 : World} {S BX BY : Nat} (k : StoreS w S BX BY) (h : w1.heap[S]? = w.heap[S]?) : StoreS w1 S BX BY := h.trans k
theorem StoreS.below {w w1 : World} {S BX BY m : Nat} (k : StoreS w S BX BY) (h : Below m w w1) (hm : S < m) : StoreS w1 S BX BY := (h.block S hm).trans k

theorem snone_is {w : World} {S BX BY : Nat} (k : StoreS w S BX BY) : Calls Try.prog 113 #[.pointer (some ⟨S, 0, none⟩)] w fun e w' => e = .returned (.bool false) ∧ w = w' := by
  have c0 := k.c0
  clear k
  go_enter Try.func113, Try.ntmps113
  go_wp2
  go_ret
  exact ⟨rfl, rfl⟩

abbrev Held := List Int × Int × Bool
def firstF (x y : Held) : Bool := x.2.2 && (!y.2.2 || decide (y.2.1 ≤ x.2.1))
def newF (x y : Held) : Held × Int := if firstF x y then (x, 1) else if y.2.2 then (y, 0) else (([], 0, false), 0)
theorem first_is {w : World} {P Q : Nat} {u v : Value} {gx gy : Int} {ix iy : Bool} (hx : HeldAt w P u (.int .u64 gx) (.bool ix)) (hy : HeldAt w Q v (.int .u64 gy) (.bool iy)) :
    Calls Try.prog 153 #[.pointer (some ⟨P, 0, none⟩), .pointer (some ⟨Q, 0, none⟩)] w fun e w' => e = .returned (.bool (ix && (!iy || decide (gy ≤ gx)))) ∧ w = w' := by
  have a1 := hx.c1
  have a2 := hx.c2
  have b1 := hy.c1
  have b2 := hy.c2
  clear hx hy
  cases ix
  · go_enter Try.func153, Try.ntmps153
    go_wp2
    go_ret
    exact ⟨rfl, rfl⟩
  cases iy
  · go_enter Try.func153, Try.ntmps153
    go_wp2
    go_ret
    exact ⟨rfl, rfl⟩
  · go_enter Try.func153, Try.ntmps153
    go_wp2
    go_ret
    simp

/-- Bytes that are read, and a block that holds none. -/
theorem C_held {w w1 : World} {A : Option Addr} {xs : List Int} {P : Nat} {a : Option Addr} {b c : Nat} {g : Int} {i : Bool} (hr : Kd.C (Kd.int .u8) w A xs.length xs) (hk : HeldAt w P (.slice a b c) (.int .u64 g) (.bool i)) (hm : ∀ k, k ≠ P → w1.heap[k]? = w.heap[k]?) : Kd.C (Kd.int .u8) w1 A xs.length xs := by
  have hR := Kd.reads_of_C (enc := Value.int .u8) (d := (0 : Int)) (h1 := fun _ => rfl) hr
  refine Kd.C_of_reads (d := (0 : Int)) (h1 := fun _ => rfl) ⟨hR.1, hR.2.1, fun h0 => ?_⟩
  obtain ⟨ad, e, hc⟩ := hR.2.2 h0
  have hb : ∀ j, (ad.add j).block = ad.block := fun j => by unfold Addr.add; split <;> rfl
  have hne : ad.block ≠ P := fun he => by
    have h := hc 0 h0
    unfold World.cell? at h
    rw [hb, he, show w.heap[P]? = _ from hk] at h
    simp only at h
    generalize (ad.add 0).off = q at h
    rcases q with _ | _ | _ | q <;> simp at h
  refine ⟨ad, e, fun j hj => ?_⟩
  rw [← hc j hj]
  unfold World.cell?
  rw [hb, hm _ hne]
def set3 (w : World) (B : Nat) (u0 u1 u2 : Value) : World := ((w.setCell ⟨B, 0, none⟩ u0).setCell ⟨B, 1, none⟩ u1).setCell ⟨B, 2, none⟩ u2
theorem set3_heap (w : World) (B : Nat) (u0 u1 u2 : Value) (k : Nat) (h : k ≠ B) : (set3 w B u0 u1 u2).heap[k]? = w.heap[k]? := by
  unfold set3
  rw [Below.heap_setCell _ _ _ _ (fun e => h e), Below.heap_setCell _ _ _ _ (fun e => h e), Below.heap_setCell _ _ _ _ (fun e => h e)]
theorem set3_below {n : Nat} {w w1 : World} (h : Below n w w1) (B : Nat) (hB : n ≤ B) (u0 u1 u2 : Value) : Below n w (set3 w1 B u0 u1 u2) := ((h.setCell hB _).setCell hB _).setCell hB _
theorem set3_size (w : World) (B : Nat) (u0 u1 u2 : Value) : (set3 w B u0 u1 u2).heap.size = w.heap.size := by simp [set3, World.setCell]

def newR.T : Bool × List (List Nat × List Nat) := (true, [([], []), ([0], [0]), ([1], [1]), ([2], [2]), ([3], [3]), ([4], [4]), ([], []), ([6], [6]), ([7], [7]), ([8], [8]), ([9], [9]), ([10, 5], [10]), ([], []), ([], []), ([12, 5, 11, 0, 1, 2, 3, 4, 5, 12, 13], [5, 12]), ([13, 11, 14, 0, 1, 2, 3, 4, 5, 6, 7, 8, 9, 10, 11, 12, 13, 14], [11, 13])])
def newR.B : List Nat := [0, 1, 3, 7, 15, 31, 0, 64, 192, 448, 960, 2047, 0, 0, 16383, 32767]
theorem newR.tab : rtab .any (opsOf Try.f114 1) = newR.T := by kernel_rfl
theorem newR.bits : waitsOk newR.T.2 newR.B = true := by kernel_rfl
/-- What the two looks have left. -/
structure NR (w : World) (S BX BY : Nat) (hx hy : Held) (A1 : Option Addr) (c1 : Nat) (A2 : Option Addr) (c2 P4 P5 : Nat) (w' : World) : Prop where
  st : StoreS w' S BX BY
  x : Kd.C (Kd.int .u8) w' A1 hx.1.length hx.1
  y : Kd.C (Kd.int .u8) w' A2 hy.1.length hy.1
  k4 : HeldAt w' P4 (.slice none 0 0) (.int .u64 0) (.bool false)
  k5 : HeldAt w' P5 (.slice none 0 0) (.int .u64 0) (.bool false)
  ne : P4 ≠ P5
  p4 : w.heap.size ≤ P4
  p5 : w.heap.size ≤ P5
  be : Below w.heap.size w w'
def hval (A : Option Addr) (c : Nat) (h : Held) : Value := .agg #[.slice A h.1.length c, .int .u64 h.2.1, .bool h.2.2]

set_option maxHeartbeats 8000000 in
theorem newest_is {w : World} {S base base' BX BY : Nat} {v u : Value} {xs ys : List Int} {s m s' m' : Int} (hS : StoreS w S BX BY) (hx : DiskS w base BX v xs s m) (hy : DiskS w base' BY u ys s' m') (hbx : areBytesN xs = true) (hby : areBytesN ys = true) :
    Calls Try.prog 114 #[.pointer (some ⟨S, 0, none⟩)] w fun e w' => ∃ A c, e = .returned (.tuple #[hval A c (newF (heldF xs) (heldF ys)).1, .int .i64 (newF (heldF xs) (heldF ys)).2]) ∧ Kd.C (Kd.int .u8) w' A (newF (heldF xs) (heldF ys)).1.1.length (newF (heldF xs) (heldF ys)).1.1 ∧ Below w.heap.size w w' := by
  have hl := hS.lt
  obtain ⟨nw, hnw⟩ : ∃ nw, newF (heldF xs) (heldF ys) = nw := ⟨_, rfl⟩
  rw [hnw]
  have HNW := Lib.hid hnw
  clear hnw
  obtain ⟨w0, hw0⟩ : ∃ w0, w0 = w.alloc (.cells #[.slice none 0 0, .int .u64 0, .bool false] 165) := ⟨_, rfl⟩
  have hbe : Below w.heap.size w w0 := by rw [hw0]; exact (Below.refl _ _).alloc (Nat.le_refl _) _
  have hk0 : HeldAt w0 w.heap.size (.slice none 0 0) (.int .u64 0) (.bool false) := by rw [hw0]; exact World.alloc_heap_new w _
  have hz0 : w0.heap.size = w.heap.size + 1 := by rw [hw0]; exact World.size_alloc _ _
  have HS := Lib.hid (hS.below hbe hl)
  have HX := Lib.hid (hx.below hbe (Nat.le_refl _))
  have HY := Lib.hid (hy.below hbe (Nat.le_refl _))
  have HBX := Lib.hid hbx
  have HBY := Lib.hid hby
  have HK0 := Lib.hid hk0
  have HB0 := Lib.hid hbe
  have HZ0 := Lib.hid hz0
  have HW0 := Lib.hid hw0
  clear hS hx hy hbx hby hbe hk0 hz0
  go_enter Try.func114, Try.ntmps114
  go_upto_region 1 with (fail)
  rw [← hw0]
  clear hw0
  have hS0 : w0.drew.cell? ⟨S, 0, none⟩ = some (.pointer (some ⟨BX, 0, none⟩)) ∧ w0.drew.cell? ⟨S, 1, none⟩ = some (.pointer (some ⟨BY, 0, none⟩)) := ⟨HS.out.c0, HS.out.c1⟩
  have HBD : Hid (Below w0.heap.size w0 w0.drew) := Lib.hid (Below.refl _ _).drew
  refine start_ (n := 16) (S := fun w' => w'.cell? ⟨S, 0, none⟩ = some (.pointer (some ⟨BX, 0, none⟩)) ∧ w'.cell? ⟨S, 1, none⟩ = some (.pointer (some ⟨BY, 0, none⟩))) (ds := []) #[false, false, false, false, false, false, false, false, false, false, false, false, false, false, false, false] (by kernel_rfl) rfl rfl hS0 (fun hHeld => ?_); refine with_tabW newR.tab newR.bits (fun HT_ HW_ => ?_)
  refine pure_ (i := 0) (N := (some 7)) (v := ?_) (a' := ?_) #[true, false, false, false, false, false, false, false, false, false, false, false, false, false, false, false] rfl rfl (any_of HT_.out (by kernel_rfl)) (fun _ _ _ h => h) (Or.inl ⟨by rfl, ?_⟩) ?_ ?_
  rotate_left
  · intro w'
    go_simp
    with_reducible rfl
  rotate_left
  · simp only [Act.put, List.setIfInBounds_toArray, List.set_cons_zero, List.set_cons_succ, i64_w, i32_w]
    rfl
  refine pure_ (i := 1) (N := (some 8)) (v := ?_) (a' := ?_) #[true, true, false, false, false, false, false, false, false, false, false, false, false, false, false, false] rfl rfl (any_of HT_.out (by kernel_rfl)) (fun _ _ _ h => h) (Or.inl ⟨by rfl, ?_⟩) ?_ ?_
  rotate_left
  · intro w'
    go_simp
    with_reducible rfl
  rotate_left
  · simp only [Act.put, List.setIfInBounds_toArray, List.set_cons_zero, List.set_cons_succ, i64_w, i32_w]
    rfl
  refine pure_ (i := 2) (N := (some 9)) (v := ?_) (a' := ?_) #[true, true, true, false, false, false, false, false, false, false, false, false, false, false, false, false] rfl rfl (any_of HT_.out (by kernel_rfl)) (fun _ _ _ h => h) (Or.inl ⟨by rfl, ?_⟩) ?_ ?_
  rotate_left
  · intro w'
    go_simp
    with_reducible rfl
  rotate_left
  · simp only [Act.put, List.setIfInBounds_toArray, List.set_cons_zero, List.set_cons_succ, i64_w, i32_w]
    rfl
  refine pure_ (i := 3) (N := (some 10)) (v := ?_) (a' := ?_) #[true, true, true, true, false, false, false, false, false, false, false, false, false, false, false, false] rfl rfl (any_of HT_.out (by kernel_rfl)) (fun _ _ _ h => h) (Or.inl ⟨by rfl, ?_⟩) ?_ ?_
  rotate_left
  · intro w'
    go_simp
    with_reducible rfl
  rotate_left
  · simp only [Act.put, List.setIfInBounds_toArray, List.set_cons_zero, List.set_cons_succ, i64_w, i32_w]
    rfl
  refine take_ (i := 4) (N := (some 11)) (v := ?_) (a' := ?_) #[true, true, true, true, true, false, false, false, false, false, false, false, false, false, false, false] rfl rfl (take_ofW HT_.out HW_.out (by kernel_rfl)) (fun _ _ _ h => h) (Or.inl ⟨by rfl, ?_⟩) hHeld ?_ ?_
  rotate_left
  · rintro w' ⟨s0, s1⟩
    go_simp
    with_reducible rfl
  rotate_left
  · simp only [Act.put, List.setIfInBounds_toArray, List.set_cons_zero, List.set_cons_succ, i64_w, i32_w]
    rfl
  refine pure_ (i := 6) (N := (some 13)) (v := ?_) (a' := ?_) #[true, true, true, true, true, false, true, false, false, false, false, false, false, false, false, false] rfl rfl (any_of HT_.out (by kernel_rfl)) (fun _ _ _ h => h) (Or.inl ⟨by rfl, ?_⟩) ?_ ?_
  rotate_left
  · intro w'
    go_simp
    with_reducible rfl
  rotate_left
  · simp only [Act.put, List.setIfInBounds_toArray, List.set_cons_zero, List.set_cons_succ, i64_w, i32_w]
    rfl
  refine pure_ (i := 7) (N := (some 14)) (v := ?_) (a' := ?_) #[true, true, true, true, true, false, true, true, false, false, false, false, false, false, false, false] rfl rfl (any_of HT_.out (by kernel_rfl)) (fun _ _ _ h => h) (Or.inl ⟨by rfl, ?_⟩) ?_ ?_
  rotate_left
  · intro w'
    go_simp
    with_reducible rfl
  rotate_left
  · simp only [Act.put, List.setIfInBounds_toArray, List.set_cons_zero, List.set_cons_succ, i64_w, i32_w]
    rfl
  refine pure_ (i := 8) (N := (some 15)) (v := ?_) (a' := ?_) #[true, true, true, true, true, false, true, true, true, false, false, false, false, false, false, false] rfl rfl (any_of HT_.out (by kernel_rfl)) (fun _ _ _ h => h) (Or.inl ⟨by rfl, ?_⟩) ?_ ?_
  rotate_left
  · intro w'
    go_simp
    with_reducible rfl
  rotate_left
  · simp only [Act.put, List.setIfInBounds_toArray, List.set_cons_zero, List.set_cons_succ, i64_w, i32_w]
    rfl
  refine pure_ (i := 9) (N := (some 16)) (v := ?_) (a' := ?_) #[true, true, true, true, true, false, true, true, true, true, false, false, false, false, false, false] rfl rfl (any_of HT_.out (by kernel_rfl)) (fun _ _ _ h => h) (Or.inl ⟨by rfl, ?_⟩) ?_ ?_
  rotate_left
  · intro w'
    go_simp
    with_reducible rfl
  rotate_left
  · simp only [Act.put, List.setIfInBounds_toArray, List.set_cons_zero, List.set_cons_succ, i64_w, i32_w]
    rfl
  refine take_ (i := 10) (N := (some 17)) (v := ?_) (a' := ?_) #[true, true, true, true, true, false, true, true, true, true, true, false, false, false, false, false] rfl rfl (take_ofW HT_.out HW_.out (by kernel_rfl)) (fun _ _ _ h => h) (Or.inl ⟨by rfl, ?_⟩) hHeld ?_ ?_
  rotate_left
  · rintro w' ⟨s0, s1⟩
    go_simp
    with_reducible rfl
  rotate_left
  · simp only [Act.put, List.setIfInBounds_toArray, List.set_cons_zero, List.set_cons_succ, i64_w, i32_w]
    rfl
  refine join_ (σ := Option Addr × Nat × Option Addr × Nat × Nat × Nat) 2 #[true, true, true, true, true, true, true, true, true, true, true, true, true, true, false, false] (fun s => [(12, hval s.1 s.2.1 (heldF xs)), (18, hval s.2.2.1 s.2.2.2.1 (heldF ys)), (4, .pointer (some ⟨s.2.2.2.2.1, 0, none⟩)), (5, .pointer (some ⟨s.2.2.2.2.2, 0, none⟩))]) (fun s w' => NR w0 S BX BY (heldF xs) (heldF ys) s.1 s.2.1 s.2.2.1 s.2.2.2.1 s.2.2.2.2.1 s.2.2.2.2.2 w') ?_ (fun hcont => ?_)
  rotate_left
  · skip
    refine three_ (i := 5) (j := 12) (k := 13) (Ni := (some 12)) (Nj := (some 4)) (Nk := (some 5)) #[true, true, true, true, true, true, true, true, true, true, true, false, false, false, false, false] #[true, true, true, true, true, false, true, true, true, true, true, false, true, false, false, false] #[true, true, true, true, true, false, true, true, true, true, true, false, false, true, false, false] rfl rfl rfl rfl rfl rfl (three_of HT_.out (by kernel_rfl)) (by decide) (by decide) (by decide) ?_ ?_ ?_
    · skip
      intro K hK
      refine goes_ Try.func152 (by kernel_rfl) rfl #[.pointer (some ⟨BX, 0, none⟩)] (by rfl) rfl rfl (by (try simp only [List.map_toArray, List.map_cons, List.map_nil]); first | done | rfl) ?_
      refine (look_is (HX.out.below HBD.out (Nat.le_refl _)) HBX.out).mono ?_
      rintro e w1 ⟨A5, c5, rfl, hc5, hb⟩
      refine ⟨_, rfl, ?_⟩
      have HC5 := Lib.hid hc5
      clear hc5
      have HBD := Lib.hid (HBD.out.trans (hb.mono HBD.out.size))
      clear hb
      have hst := HS.out.below HBD.out HS.out.lt
      refine hK.out _ _ ⟨hst.c0, hst.c1⟩ (fun hHeld => ?_)
      clear hK K hst
      refine norm_ (a' := ?_) ?_ ?_
      rotate_left
      · show Act.put _ (some 12) _ = _
        simp only [Act.put, List.setIfInBounds_toArray, List.set_cons_zero, List.set_cons_succ, i64_w, i32_w]
        rfl
      refine three_ (i := 11) (j := 12) (k := 13) (Ni := (some 18)) (Nj := (some 4)) (Nk := (some 5)) #[true, true, true, true, true, true, true, true, true, true, true, true, false, false, false, false] #[true, true, true, true, true, true, true, true, true, true, true, false, true, false, false, false] #[true, true, true, true, true, true, true, true, true, true, true, false, false, true, false, false] rfl rfl rfl rfl rfl rfl (three_of HT_.out (by kernel_rfl)) (by decide) (by decide) (by decide) ?_ ?_ ?_
      · skip
        intro K hK
        refine goes_ Try.func152 (by kernel_rfl) rfl #[.pointer (some ⟨BY, 0, none⟩)] (by rfl) rfl rfl (by (try simp only [List.map_toArray, List.map_cons, List.map_nil]); first | done | rfl) ?_
        refine (look_is (HY.out.below HBD.out (Nat.le_refl _)) HBY.out).mono ?_
        rintro e w2 ⟨A11, c11, rfl, hc11, hb⟩
        refine ⟨_, rfl, ?_⟩
        have HC11 := Lib.hid hc11
        clear hc11
        have HC5 := Lib.hid (Kd.C_below HC5.out hb)
        have HBD := Lib.hid (HBD.out.trans (hb.mono HBD.out.size))
        clear hb
        have hst := HS.out.below HBD.out HS.out.lt
        refine hK.out _ _ ⟨hst.c0, hst.c1⟩ (fun hHeld => ?_)
        clear hK K hst
        refine norm_ (a' := ?_) ?_ ?_
        rotate_left
        · show Act.put _ (some 18) _ = _
          simp only [Act.put, List.setIfInBounds_toArray, List.set_cons_zero, List.set_cons_succ, i64_w, i32_w]
          rfl
        refine two_ (i := 12) (j := 13) (Ni := (some 4)) (Nj := (some 5)) #[true, true, true, true, true, true, true, true, true, true, true, true, true, false, false, false] #[true, true, true, true, true, true, true, true, true, true, true, true, false, true, false, false] rfl rfl rfl rfl (two_of HT_.out (by kernel_rfl)) (by decide) (by decide) ?_ ?_
        · skip
          intro K hK
          refine value_ (w1 := ?_) (v := ?_) (by rfl) rfl ?_ ?_
          rotate_left 2
          · go_simp
            constructor
            · rfl
            · rfl
          have hb : Below w2.heap.size w2 (w2.alloc (.cells #[.slice none 0 0, .int .u64 0, .bool false] 165)) := (Below.refl _ _).alloc (Nat.le_refl _) _
          have HC5 := Lib.hid (Kd.C_below HC5.out hb)
          have HC11 := Lib.hid (Kd.C_below HC11.out hb)
          have HK12 : Hid (HeldAt (w2.alloc (.cells #[.slice none 0 0, .int .u64 0, .bool false] 165)) w2.heap.size (.slice none 0 0) (.int .u64 0) (.bool false)) := Lib.hid (World.alloc_heap_new w2 _)
          have HP12 : Hid (w0.heap.size ≤ w2.heap.size) := Lib.hid HBD.out.size
          have HLT12 : Hid (w2.heap.size < (w2.alloc (.cells #[.slice none 0 0, .int .u64 0, .bool false] 165)).heap.size) := Lib.hid HK12.out.lt
          have HBD := Lib.hid (HBD.out.trans (hb.mono HBD.out.size))
          clear hb
          have hst := HS.out.below HBD.out HS.out.lt
          refine hK.out _ _ ⟨hst.c0, hst.c1⟩ (fun hHeld => ?_)
          clear hK K hst
          refine norm_ (a' := ?_) ?_ ?_
          rotate_left
          · show Act.put _ (some 4) _ = _
            simp only [Act.put, List.setIfInBounds_toArray, List.set_cons_zero, List.set_cons_succ, i64_w, i32_w]
            rfl
          refine one_ (i := 13) (N := (some 5)) #[true, true, true, true, true, true, true, true, true, true, true, true, true, true, false, false] rfl rfl (one_of HT_.out (by kernel_rfl)) (by decide) ?_
          intro K hK
          refine value_ (w1 := ?_) (v := ?_) (by rfl) rfl ?_ ?_
          rotate_left 2
          · go_simp
            constructor
            · rfl
            · rfl
          have hb : Below (w2.alloc (.cells #[.slice none 0 0, .int .u64 0, .bool false] 165)).heap.size (w2.alloc (.cells #[.slice none 0 0, .int .u64 0, .bool false] 165)) ((w2.alloc (.cells #[.slice none 0 0, .int .u64 0, .bool false] 165)).alloc (.cells #[.slice none 0 0, .int .u64 0, .bool false] 165)) := (Below.refl _ _).alloc (Nat.le_refl _) _
          have HC5 := Lib.hid (Kd.C_below HC5.out hb)
          have HC11 := Lib.hid (Kd.C_below HC11.out hb)
          have HK12 := Lib.hid (HK12.out.below hb HK12.out.lt)
          have HK13 : Hid (HeldAt ((w2.alloc (.cells #[.slice none 0 0, .int .u64 0, .bool false] 165)).alloc (.cells #[.slice none 0 0, .int .u64 0, .bool false] 165)) (w2.alloc (.cells #[.slice none 0 0, .int .u64 0, .bool false] 165)).heap.size (.slice none 0 0) (.int .u64 0) (.bool false)) := Lib.hid (World.alloc_heap_new (w2.alloc (.cells #[.slice none 0 0, .int .u64 0, .bool false] 165)) _)
          have HP13 : Hid (w0.heap.size ≤ (w2.alloc (.cells #[.slice none 0 0, .int .u64 0, .bool false] 165)).heap.size) := Lib.hid HBD.out.size
          have HNE : Hid (w2.heap.size ≠ (w2.alloc (.cells #[.slice none 0 0, .int .u64 0, .bool false] 165)).heap.size) := Lib.hid (by have := HLT12.out; omega)
          have HLT13 : Hid ((w2.alloc (.cells #[.slice none 0 0, .int .u64 0, .bool false] 165)).heap.size < ((w2.alloc (.cells #[.slice none 0 0, .int .u64 0, .bool false] 165)).alloc (.cells #[.slice none 0 0, .int .u64 0, .bool false] 165)).heap.size) := Lib.hid HK13.out.lt
          have HK13 := by have h := HK13.out; rw [World.size_alloc] at h; exact Lib.hid h
          have HP13 := by have h := HP13.out; rw [World.size_alloc] at h; exact Lib.hid h
          have HNE := by have h := HNE.out; rw [World.size_alloc] at h; exact Lib.hid h
          have HLT12 := Lib.hid (Nat.lt_of_lt_of_le HLT12.out hb.size)
          have HBD := Lib.hid (HBD.out.trans (hb.mono HBD.out.size))
          clear hb
          have hst := HS.out.below HBD.out HS.out.lt
          refine hK.out _ _ ⟨hst.c0, hst.c1⟩ (fun hHeld => ?_)
          clear hK K hst
          refine norm_ (a' := ?_) ?_ ?_
          rotate_left
          · show Act.put _ (some 5) _ = _
            simp only [Act.put, List.setIfInBounds_toArray, List.set_cons_zero, List.set_cons_succ, i64_w, i32_w]
            rfl
          exact norm_ (by rfl) (hcont (A5, c5, A11, c11, _, _) _ ⟨HS.out.below HBD.out HS.out.lt, HC5.out, HC11.out, HK12.out, HK13.out, HNE.out, HP12.out, HP13.out, HBD.out⟩)
        · skip
          intro K hK
          refine value_ (w1 := ?_) (v := ?_) (by rfl) rfl ?_ ?_
          rotate_left 2
          · go_simp
            constructor
            · rfl
            · rfl
          have hb : Below w2.heap.size w2 (w2.alloc (.cells #[.slice none 0 0, .int .u64 0, .bool false] 165)) := (Below.refl _ _).alloc (Nat.le_refl _) _
          have HC5 := Lib.hid (Kd.C_below HC5.out hb)
          have HC11 := Lib.hid (Kd.C_below HC11.out hb)
          have HK13 : Hid (HeldAt (w2.alloc (.cells #[.slice none 0 0, .int .u64 0, .bool false] 165)) w2.heap.size (.slice none 0 0) (.int .u64 0) (.bool false)) := Lib.hid (World.alloc_heap_new w2 _)
          have HP13 : Hid (w0.heap.size ≤ w2.heap.size) := Lib.hid HBD.out.size
          have HLT13 : Hid (w2.heap.size < (w2.alloc (.cells #[.slice none 0 0, .int .u64 0, .bool false] 165)).heap.size) := Lib.hid HK13.out.lt
          have HBD := Lib.hid (HBD.out.trans (hb.mono HBD.out.size))
          clear hb
          have hst := HS.out.below HBD.out HS.out.lt
          refine hK.out _ _ ⟨hst.c0, hst.c1⟩ (fun hHeld => ?_)
          clear hK K hst
          refine norm_ (a' := ?_) ?_ ?_
          rotate_left
          · show Act.put _ (some 5) _ = _
            simp only [Act.put, List.setIfInBounds_toArray, List.set_cons_zero, List.set_cons_succ, i64_w, i32_w]
            rfl
          refine one_ (i := 12) (N := (some 4)) #[true, true, true, true, true, true, true, true, true, true, true, true, true, true, false, false] rfl rfl (one_of HT_.out (by kernel_rfl)) (by decide) ?_
          intro K hK
          refine value_ (w1 := ?_) (v := ?_) (by rfl) rfl ?_ ?_
          rotate_left 2
          · go_simp
            constructor
            · rfl
            · rfl
          have hb : Below (w2.alloc (.cells #[.slice none 0 0, .int .u64 0, .bool false] 165)).heap.size (w2.alloc (.cells #[.slice none 0 0, .int .u64 0, .bool false] 165)) ((w2.alloc (.cells #[.slice none 0 0, .int .u64 0, .bool false] 165)).alloc (.cells #[.slice none 0 0, .int .u64 0, .bool false] 165)) := (Below.refl _ _).alloc (Nat.le_refl _) _
          have HC5 := Lib.hid (Kd.C_below HC5.out hb)
          have HC11 := Lib.hid (Kd.C_below HC11.out hb)
          have HK13 := Lib.hid (HK13.out.below hb HK13.out.lt)
          have HK12 : Hid (HeldAt ((w2.alloc (.cells #[.slice none 0 0, .int .u64 0, .bool false] 165)).alloc (.cells #[.slice none 0 0, .int .u64 0, .bool false] 165)) (w2.alloc (.cells #[.slice none 0 0, .int .u64 0, .bool false] 165)).heap.size (.slice none 0 0) (.int .u64 0) (.bool false)) := Lib.hid (World.alloc_heap_new (w2.alloc (.cells #[.slice none 0 0, .int .u64 0, .bool false] 165)) _)
          have HP12 : Hid (w0.heap.size ≤ (w2.alloc (.cells #[.slice none 0 0, .int .u64 0, .bool false] 165)).heap.size) := Lib.hid HBD.out.size
          have HNE : Hid ((w2.alloc (.cells #[.slice none 0 0, .int .u64 0, .bool false] 165)).heap.size ≠ w2.heap.size) := Lib.hid (by have := HLT13.out; omega)
          have HLT12 : Hid ((w2.alloc (.cells #[.slice none 0 0, .int .u64 0, .bool false] 165)).heap.size < ((w2.alloc (.cells #[.slice none 0 0, .int .u64 0, .bool false] 165)).alloc (.cells #[.slice none 0 0, .int .u64 0, .bool false] 165)).heap.size) := Lib.hid HK12.out.lt
          have HK12 := by have h := HK12.out; rw [World.size_alloc] at h; exact Lib.hid h
          have HP12 := by have h := HP12.out; rw [World.size_alloc] at h; exact Lib.hid h
          have HNE := by have h := HNE.out; rw [World.size_alloc] at h; exact Lib.hid h
          have HLT13 := Lib.hid (Nat.lt_of_lt_of_le HLT13.out hb.size)
          have HBD := Lib.hid (HBD.out.trans (hb.mono HBD.out.size))
          clear hb
          have hst := HS.out.below HBD.out HS.out.lt
          refine hK.out _ _ ⟨hst.c0, hst.c1⟩ (fun hHeld => ?_)
          clear hK K hst
          refine norm_ (a' := ?_) ?_ ?_
          rotate_left
          · show Act.put _ (some 4) _ = _
            simp only [Act.put, List.setIfInBounds_toArray, List.set_cons_zero, List.set_cons_succ, i64_w, i32_w]
            rfl
          exact norm_ (by rfl) (hcont (A5, c5, A11, c11, _, _) _ ⟨HS.out.below HBD.out HS.out.lt, HC5.out, HC11.out, HK12.out, HK13.out, HNE.out, HP12.out, HP13.out, HBD.out⟩)
      · skip
        intro K hK
        refine value_ (w1 := ?_) (v := ?_) (by rfl) rfl ?_ ?_
        rotate_left 2
        · go_simp
          constructor
          · rfl
          · rfl
        have hb : Below w1.heap.size w1 (w1.alloc (.cells #[.slice none 0 0, .int .u64 0, .bool false] 165)) := (Below.refl _ _).alloc (Nat.le_refl _) _
        have HC5 := Lib.hid (Kd.C_below HC5.out hb)
        have HK12 : Hid (HeldAt (w1.alloc (.cells #[.slice none 0 0, .int .u64 0, .bool false] 165)) w1.heap.size (.slice none 0 0) (.int .u64 0) (.bool false)) := Lib.hid (World.alloc_heap_new w1 _)
        have HP12 : Hid (w0.heap.size ≤ w1.heap.size) := Lib.hid HBD.out.size
        have HLT12 : Hid (w1.heap.size < (w1.alloc (.cells #[.slice none 0 0, .int .u64 0, .bool false] 165)).heap.size) := Lib.hid HK12.out.lt
        have HBD := Lib.hid (HBD.out.trans (hb.mono HBD.out.size))
        clear hb
        have hst := HS.out.below HBD.out HS.out.lt
        refine hK.out _ _ ⟨hst.c0, hst.c1⟩ (fun hHeld => ?_)
        clear hK K hst
        refine norm_ (a' := ?_) ?_ ?_
        rotate_left
        · show Act.put _ (some 4) _ = _
          simp only [Act.put, List.setIfInBounds_toArray, List.set_cons_zero, List.set_cons_succ, i64_w, i32_w]
          rfl
        refine two_ (i := 11) (j := 13) (Ni := (some 18)) (Nj := (some 5)) #[true, true, true, true, true, true, true, true, true, true, true, true, true, false, false, false] #[true, true, true, true, true, true, true, true, true, true, true, false, true, true, false, false] rfl rfl rfl rfl (two_of HT_.out (by kernel_rfl)) (by decide) (by decide) ?_ ?_
        · skip
          intro K hK
          refine goes_ Try.func152 (by kernel_rfl) rfl #[.pointer (some ⟨BY, 0, none⟩)] (by rfl) rfl rfl (by (try simp only [List.map_toArray, List.map_cons, List.map_nil]); first | done | rfl) ?_
          refine (look_is (HY.out.below HBD.out (Nat.le_refl _)) HBY.out).mono ?_
          rintro e w3 ⟨A11, c11, rfl, hc11, hb⟩
          refine ⟨_, rfl, ?_⟩
          have HC11 := Lib.hid hc11
          clear hc11
          have HC5 := Lib.hid (Kd.C_below HC5.out hb)
          have HK12 := Lib.hid (HK12.out.below hb HK12.out.lt)
          have HLT12 := Lib.hid (Nat.lt_of_lt_of_le HLT12.out hb.size)
          have HBD := Lib.hid (HBD.out.trans (hb.mono HBD.out.size))
          clear hb
          have hst := HS.out.below HBD.out HS.out.lt
          refine hK.out _ _ ⟨hst.c0, hst.c1⟩ (fun hHeld => ?_)
          clear hK K hst
          refine norm_ (a' := ?_) ?_ ?_
          rotate_left
          · show Act.put _ (some 18) _ = _
            simp only [Act.put, List.setIfInBounds_toArray, List.set_cons_zero, List.set_cons_succ, i64_w, i32_w]
            rfl
          refine one_ (i := 13) (N := (some 5)) #[true, true, true, true, true, true, true, true, true, true, true, true, true, true, false, false] rfl rfl (one_of HT_.out (by kernel_rfl)) (by decide) ?_
          intro K hK
          refine value_ (w1 := ?_) (v := ?_) (by rfl) rfl ?_ ?_
          rotate_left 2
          · go_simp
            constructor
            · rfl
            · rfl
          have hb : Below w3.heap.size w3 (w3.alloc (.cells #[.slice none 0 0, .int .u64 0, .bool false] 165)) := (Below.refl _ _).alloc (Nat.le_refl _) _
          have HC5 := Lib.hid (Kd.C_below HC5.out hb)
          have HK12 := Lib.hid (HK12.out.below hb HK12.out.lt)
          have HC11 := Lib.hid (Kd.C_below HC11.out hb)
          have HK13 : Hid (HeldAt (w3.alloc (.cells #[.slice none 0 0, .int .u64 0, .bool false] 165)) w3.heap.size (.slice none 0 0) (.int .u64 0) (.bool false)) := Lib.hid (World.alloc_heap_new w3 _)
          have HP13 : Hid (w0.heap.size ≤ w3.heap.size) := Lib.hid HBD.out.size
          have HNE : Hid (w1.heap.size ≠ w3.heap.size) := Lib.hid (by have := HLT12.out; omega)
          have HLT13 : Hid (w3.heap.size < (w3.alloc (.cells #[.slice none 0 0, .int .u64 0, .bool false] 165)).heap.size) := Lib.hid HK13.out.lt
          have HLT12 := Lib.hid (Nat.lt_of_lt_of_le HLT12.out hb.size)
          have HBD := Lib.hid (HBD.out.trans (hb.mono HBD.out.size))
          clear hb
          have hst := HS.out.below HBD.out HS.out.lt
          refine hK.out _ _ ⟨hst.c0, hst.c1⟩ (fun hHeld => ?_)
          clear hK K hst
          refine norm_ (a' := ?_) ?_ ?_
          rotate_left
          · show Act.put _ (some 5) _ = _
            simp only [Act.put, List.setIfInBounds_toArray, List.set_cons_zero, List.set_cons_succ, i64_w, i32_w]
            rfl
          exact norm_ (by rfl) (hcont (A5, c5, A11, c11, _, _) _ ⟨HS.out.below HBD.out HS.out.lt, HC5.out, HC11.out, HK12.out, HK13.out, HNE.out, HP12.out, HP13.out, HBD.out⟩)
        · skip
          intro K hK
          refine value_ (w1 := ?_) (v := ?_) (by rfl) rfl ?_ ?_
          rotate_left 2
          · go_simp
            constructor
            · rfl
            · rfl
          have hb : Below (w1.alloc (.cells #[.slice none 0 0, .int .u64 0, .bool false] 165)).heap.size (w1.alloc (.cells #[.slice none 0 0, .int .u64 0, .bool false] 165)) ((w1.alloc (.cells #[.slice none 0 0, .int .u64 0, .bool false] 165)).alloc (.cells #[.slice none 0 0, .int .u64 0, .bool false] 165)) := (Below.refl _ _).alloc (Nat.le_refl _) _
          have HC5 := Lib.hid (Kd.C_below HC5.out hb)
          have HK12 := Lib.hid (HK12.out.below hb HK12.out.lt)
          have HK13 : Hid (HeldAt ((w1.alloc (.cells #[.slice none 0 0, .int .u64 0, .bool false] 165)).alloc (.cells #[.slice none 0 0, .int .u64 0, .bool false] 165)) (w1.alloc (.cells #[.slice none 0 0, .int .u64 0, .bool false] 165)).heap.size (.slice none 0 0) (.int .u64 0) (.bool false)) := Lib.hid (World.alloc_heap_new (w1.alloc (.cells #[.slice none 0 0, .int .u64 0, .bool false] 165)) _)
          have HP13 : Hid (w0.heap.size ≤ (w1.alloc (.cells #[.slice none 0 0, .int .u64 0, .bool false] 165)).heap.size) := Lib.hid HBD.out.size
          have HNE : Hid (w1.heap.size ≠ (w1.alloc (.cells #[.slice none 0 0, .int .u64 0, .bool false] 165)).heap.size) := Lib.hid (by have := HLT12.out; omega)
          have HLT13 : Hid ((w1.alloc (.cells #[.slice none 0 0, .int .u64 0, .bool false] 165)).heap.size < ((w1.alloc (.cells #[.slice none 0 0, .int .u64 0, .bool false] 165)).alloc (.cells #[.slice none 0 0, .int .u64 0, .bool false] 165)).heap.size) := Lib.hid HK13.out.lt
          have HK13 := by have h := HK13.out; rw [World.size_alloc] at h; exact Lib.hid h
          have HP13 := by have h := HP13.out; rw [World.size_alloc] at h; exact Lib.hid h
          have HNE := by have h := HNE.out; rw [World.size_alloc] at h; exact Lib.hid h
          have HLT12 := Lib.hid (Nat.lt_of_lt_of_le HLT12.out hb.size)
          have HBD := Lib.hid (HBD.out.trans (hb.mono HBD.out.size))
          clear hb
          have hst := HS.out.below HBD.out HS.out.lt
          refine hK.out _ _ ⟨hst.c0, hst.c1⟩ (fun hHeld => ?_)
          clear hK K hst
          refine norm_ (a' := ?_) ?_ ?_
          rotate_left
          · show Act.put _ (some 5) _ = _
            simp only [Act.put, List.setIfInBounds_toArray, List.set_cons_zero, List.set_cons_succ, i64_w, i32_w]
            rfl
          refine one_ (i := 11) (N := (some 18)) #[true, true, true, true, true, true, true, true, true, true, true, true, true, true, false, false] rfl rfl (one_of HT_.out (by kernel_rfl)) (by decide) ?_
          intro K hK
          refine goes_ Try.func152 (by kernel_rfl) rfl #[.pointer (some ⟨BY, 0, none⟩)] (by rfl) rfl rfl (by (try simp only [List.map_toArray, List.map_cons, List.map_nil]); first | done | rfl) ?_
          refine (look_is (HY.out.below HBD.out (Nat.le_refl _)) HBY.out).mono ?_
          rintro e w4 ⟨A11, c11, rfl, hc11, hb⟩
          refine ⟨_, rfl, ?_⟩
          have HC11 := Lib.hid hc11
          clear hc11
          have HC5 := Lib.hid (Kd.C_below HC5.out hb)
          have HK12 := Lib.hid (HK12.out.below hb HK12.out.lt)
          have HK13 := Lib.hid (HK13.out.below hb HK13.out.lt)
          have HLT12 := Lib.hid (Nat.lt_of_lt_of_le HLT12.out hb.size)
          have HLT13 := Lib.hid (Nat.lt_of_lt_of_le HLT13.out hb.size)
          have HBD := Lib.hid (HBD.out.trans (hb.mono HBD.out.size))
          clear hb
          have hst := HS.out.below HBD.out HS.out.lt
          refine hK.out _ _ ⟨hst.c0, hst.c1⟩ (fun hHeld => ?_)
          clear hK K hst
          refine norm_ (a' := ?_) ?_ ?_
          rotate_left
          · show Act.put _ (some 18) _ = _
            simp only [Act.put, List.setIfInBounds_toArray, List.set_cons_zero, List.set_cons_succ, i64_w, i32_w]
            rfl
          exact norm_ (by rfl) (hcont (A5, c5, A11, c11, _, _) _ ⟨HS.out.below HBD.out HS.out.lt, HC5.out, HC11.out, HK12.out, HK13.out, HNE.out, HP12.out, HP13.out, HBD.out⟩)
      · skip
        intro K hK
        refine value_ (w1 := ?_) (v := ?_) (by rfl) rfl ?_ ?_
        rotate_left 2
        · go_simp
          constructor
          · rfl
          · rfl
        have hb : Below w1.heap.size w1 (w1.alloc (.cells #[.slice none 0 0, .int .u64 0, .bool false] 165)) := (Below.refl _ _).alloc (Nat.le_refl _) _
        have HC5 := Lib.hid (Kd.C_below HC5.out hb)
        have HK13 : Hid (HeldAt (w1.alloc (.cells #[.slice none 0 0, .int .u64 0, .bool false] 165)) w1.heap.size (.slice none 0 0) (.int .u64 0) (.bool false)) := Lib.hid (World.alloc_heap_new w1 _)
        have HP13 : Hid (w0.heap.size ≤ w1.heap.size) := Lib.hid HBD.out.size
        have HLT13 : Hid (w1.heap.size < (w1.alloc (.cells #[.slice none 0 0, .int .u64 0, .bool false] 165)).heap.size) := Lib.hid HK13.out.lt
        have HBD := Lib.hid (HBD.out.trans (hb.mono HBD.out.size))
        clear hb
        have hst := HS.out.below HBD.out HS.out.lt
        refine hK.out _ _ ⟨hst.c0, hst.c1⟩ (fun hHeld => ?_)
        clear hK K hst
        refine norm_ (a' := ?_) ?_ ?_
        rotate_left
        · show Act.put _ (some 5) _ = _
          simp only [Act.put, List.setIfInBounds_toArray, List.set_cons_zero, List.set_cons_succ, i64_w, i32_w]
          rfl
        refine two_ (i := 11) (j := 12) (Ni := (some 18)) (Nj := (some 4)) #[true, true, true, true, true, true, true, true, true, true, true, true, false, true, false, false] #[true, true, true, true, true, true, true, true, true, true, true, false, true, true, false, false] rfl rfl rfl rfl (two_of HT_.out (by kernel_rfl)) (by decide) (by decide) ?_ ?_
        · skip
          intro K hK
          refine goes_ Try.func152 (by kernel_rfl) rfl #[.pointer (some ⟨BY, 0, none⟩)] (by rfl) rfl rfl (by (try simp only [List.map_toArray, List.map_cons, List.map_nil]); first | done | rfl) ?_
          refine (look_is (HY.out.below HBD.out (Nat.le_refl _)) HBY.out).mono ?_
          rintro e w3 ⟨A11, c11, rfl, hc11, hb⟩
          refine ⟨_, rfl, ?_⟩
          have HC11 := Lib.hid hc11
          clear hc11
          have HC5 := Lib.hid (Kd.C_below HC5.out hb)
          have HK13 := Lib.hid (HK13.out.below hb HK13.out.lt)
          have HLT13 := Lib.hid (Nat.lt_of_lt_of_le HLT13.out hb.size)
          have HBD := Lib.hid (HBD.out.trans (hb.mono HBD.out.size))
          clear hb
          have hst := HS.out.below HBD.out HS.out.lt
          refine hK.out _ _ ⟨hst.c0, hst.c1⟩ (fun hHeld => ?_)
          clear hK K hst
          refine norm_ (a' := ?_) ?_ ?_
          rotate_left
          · show Act.put _ (some 18) _ = _
            simp only [Act.put, List.setIfInBounds_toArray, List.set_cons_zero, List.set_cons_succ, i64_w, i32_w]
            rfl
          refine one_ (i := 12) (N := (some 4)) #[true, true, true, true, true, true, true, true, true, true, true, true, true, true, false, false] rfl rfl (one_of HT_.out (by kernel_rfl)) (by decide) ?_
          intro K hK
          refine value_ (w1 := ?_) (v := ?_) (by rfl) rfl ?_ ?_
          rotate_left 2
          · go_simp
            constructor
            · rfl
            · rfl
          have hb : Below w3.heap.size w3 (w3.alloc (.cells #[.slice none 0 0, .int .u64 0, .bool false] 165)) := (Below.refl _ _).alloc (Nat.le_refl _) _
          have HC5 := Lib.hid (Kd.C_below HC5.out hb)
          have HK13 := Lib.hid (HK13.out.below hb HK13.out.lt)
          have HC11 := Lib.hid (Kd.C_below HC11.out hb)
          have HK12 : Hid (HeldAt (w3.alloc (.cells #[.slice none 0 0, .int .u64 0, .bool false] 165)) w3.heap.size (.slice none 0 0) (.int .u64 0) (.bool false)) := Lib.hid (World.alloc_heap_new w3 _)
          have HP12 : Hid (w0.heap.size ≤ w3.heap.size) := Lib.hid HBD.out.size
          have HNE : Hid (w3.heap.size ≠ w1.heap.size) := Lib.hid (by have := HLT13.out; omega)
          have HLT12 : Hid (w3.heap.size < (w3.alloc (.cells #[.slice none 0 0, .int .u64 0, .bool false] 165)).heap.size) := Lib.hid HK12.out.lt
          have HLT13 := Lib.hid (Nat.lt_of_lt_of_le HLT13.out hb.size)
          have HBD := Lib.hid (HBD.out.trans (hb.mono HBD.out.size))
          clear hb
          have hst := HS.out.below HBD.out HS.out.lt
          refine hK.out _ _ ⟨hst.c0, hst.c1⟩ (fun hHeld => ?_)
          clear hK K hst
          refine norm_ (a' := ?_) ?_ ?_
          rotate_left
          · show Act.put _ (some 4) _ = _
            simp only [Act.put, List.setIfInBounds_toArray, List.set_cons_zero, List.set_cons_succ, i64_w, i32_w]
            rfl
          exact norm_ (by rfl) (hcont (A5, c5, A11, c11, _, _) _ ⟨HS.out.below HBD.out HS.out.lt, HC5.out, HC11.out, HK12.out, HK13.out, HNE.out, HP12.out, HP13.out, HBD.out⟩)
        · skip
          intro K hK
          refine value_ (w1 := ?_) (v := ?_) (by rfl) rfl ?_ ?_
          rotate_left 2
          · go_simp
            constructor
            · rfl
            · rfl
          have hb : Below (w1.alloc (.cells #[.slice none 0 0, .int .u64 0, .bool false] 165)).heap.size (w1.alloc (.cells #[.slice none 0 0, .int .u64 0, .bool false] 165)) ((w1.alloc (.cells #[.slice none 0 0, .int .u64 0, .bool false] 165)).alloc (.cells #[.slice none 0 0, .int .u64 0, .bool false] 165)) := (Below.refl _ _).alloc (Nat.le_refl _) _
          have HC5 := Lib.hid (Kd.C_below HC5.out hb)
          have HK13 := Lib.hid (HK13.out.below hb HK13.out.lt)
          have HK12 : Hid (HeldAt ((w1.alloc (.cells #[.slice none 0 0, .int .u64 0, .bool false] 165)).alloc (.cells #[.slice none 0 0, .int .u64 0, .bool false] 165)) (w1.alloc (.cells #[.slice none 0 0, .int .u64 0, .bool false] 165)).heap.size (.slice none 0 0) (.int .u64 0) (.bool false)) := Lib.hid (World.alloc_heap_new (w1.alloc (.cells #[.slice none 0 0, .int .u64 0, .bool false] 165)) _)
          have HP12 : Hid (w0.heap.size ≤ (w1.alloc (.cells #[.slice none 0 0, .int .u64 0, .bool false] 165)).heap.size) := Lib.hid HBD.out.size
          have HNE : Hid ((w1.alloc (.cells #[.slice none 0 0, .int .u64 0, .bool false] 165)).heap.size ≠ w1.heap.size) := Lib.hid (by have := HLT13.out; omega)
          have HLT12 : Hid ((w1.alloc (.cells #[.slice none 0 0, .int .u64 0, .bool false] 165)).heap.size < ((w1.alloc (.cells #[.slice none 0 0, .int .u64 0, .bool false] 165)).alloc (.cells #[.slice none 0 0, .int .u64 0, .bool false] 165)).heap.size) := Lib.hid HK12.out.lt
          have HK12 := by have h := HK12.out; rw [World.size_alloc] at h; exact Lib.hid h
          have HP12 := by have h := HP12.out; rw [World.size_alloc] at h; exact Lib.hid h
          have HNE := by have h := HNE.out; rw [World.size_alloc] at h; exact Lib.hid h
          have HLT13 := Lib.hid (Nat.lt_of_lt_of_le HLT13.out hb.size)
          have HBD := Lib.hid (HBD.out.trans (hb.mono HBD.out.size))
          clear hb
          have hst := HS.out.below HBD.out HS.out.lt
          refine hK.out _ _ ⟨hst.c0, hst.c1⟩ (fun hHeld => ?_)
          clear hK K hst
          refine norm_ (a' := ?_) ?_ ?_
          rotate_left
          · show Act.put _ (some 4) _ = _
            simp only [Act.put, List.setIfInBounds_toArray, List.set_cons_zero, List.set_cons_succ, i64_w, i32_w]
            rfl
          refine one_ (i := 11) (N := (some 18)) #[true, true, true, true, true, true, true, true, true, true, true, true, true, true, false, false] rfl rfl (one_of HT_.out (by kernel_rfl)) (by decide) ?_
          intro K hK
          refine goes_ Try.func152 (by kernel_rfl) rfl #[.pointer (some ⟨BY, 0, none⟩)] (by rfl) rfl rfl (by (try simp only [List.map_toArray, List.map_cons, List.map_nil]); first | done | rfl) ?_
          refine (look_is (HY.out.below HBD.out (Nat.le_refl _)) HBY.out).mono ?_
          rintro e w4 ⟨A11, c11, rfl, hc11, hb⟩
          refine ⟨_, rfl, ?_⟩
          have HC11 := Lib.hid hc11
          clear hc11
          have HC5 := Lib.hid (Kd.C_below HC5.out hb)
          have HK13 := Lib.hid (HK13.out.below hb HK13.out.lt)
          have HK12 := Lib.hid (HK12.out.below hb HK12.out.lt)
          have HLT13 := Lib.hid (Nat.lt_of_lt_of_le HLT13.out hb.size)
          have HLT12 := Lib.hid (Nat.lt_of_lt_of_le HLT12.out hb.size)
          have HBD := Lib.hid (HBD.out.trans (hb.mono HBD.out.size))
          clear hb
          have hst := HS.out.below HBD.out HS.out.lt
          refine hK.out _ _ ⟨hst.c0, hst.c1⟩ (fun hHeld => ?_)
          clear hK K hst
          refine norm_ (a' := ?_) ?_ ?_
          rotate_left
          · show Act.put _ (some 18) _ = _
            simp only [Act.put, List.setIfInBounds_toArray, List.set_cons_zero, List.set_cons_succ, i64_w, i32_w]
            rfl
          exact norm_ (by rfl) (hcont (A5, c5, A11, c11, _, _) _ ⟨HS.out.below HBD.out HS.out.lt, HC5.out, HC11.out, HK12.out, HK13.out, HNE.out, HP12.out, HP13.out, HBD.out⟩)
    · skip
      intro K hK
      refine value_ (w1 := ?_) (v := ?_) (by rfl) rfl ?_ ?_
      rotate_left 2
      · go_simp
        constructor
        · rfl
        · rfl
      have hb : Below w0.drew.heap.size w0.drew (w0.drew.alloc (.cells #[.slice none 0 0, .int .u64 0, .bool false] 165)) := (Below.refl _ _).alloc (Nat.le_refl _) _
      have HK12 : Hid (HeldAt (w0.drew.alloc (.cells #[.slice none 0 0, .int .u64 0, .bool false] 165)) w0.drew.heap.size (.slice none 0 0) (.int .u64 0) (.bool false)) := Lib.hid (World.alloc_heap_new w0.drew _)
      have HP12 : Hid (w0.heap.size ≤ w0.drew.heap.size) := Lib.hid HBD.out.size
      have HLT12 : Hid (w0.drew.heap.size < (w0.drew.alloc (.cells #[.slice none 0 0, .int .u64 0, .bool false] 165)).heap.size) := Lib.hid HK12.out.lt
      have HBD := Lib.hid (HBD.out.trans (hb.mono HBD.out.size))
      clear hb
      have hst := HS.out.below HBD.out HS.out.lt
      refine hK.out _ _ ⟨hst.c0, hst.c1⟩ (fun hHeld => ?_)
      clear hK K hst
      refine norm_ (a' := ?_) ?_ ?_
      rotate_left
      · show Act.put _ (some 4) _ = _
        simp only [Act.put, List.setIfInBounds_toArray, List.set_cons_zero, List.set_cons_succ, i64_w, i32_w]
        rfl
      refine two_ (i := 5) (j := 13) (Ni := (some 12)) (Nj := (some 5)) #[true, true, true, true, true, true, true, true, true, true, true, false, true, false, false, false] #[true, true, true, true, true, false, true, true, true, true, true, false, true, true, false, false] rfl rfl rfl rfl (two_of HT_.out (by kernel_rfl)) (by decide) (by decide) ?_ ?_
      · skip
        intro K hK
        refine goes_ Try.func152 (by kernel_rfl) rfl #[.pointer (some ⟨BX, 0, none⟩)] (by rfl) rfl rfl (by (try simp only [List.map_toArray, List.map_cons, List.map_nil]); first | done | rfl) ?_
        refine (look_is (HX.out.below HBD.out (Nat.le_refl _)) HBX.out).mono ?_
        rintro e w2 ⟨A5, c5, rfl, hc5, hb⟩
        refine ⟨_, rfl, ?_⟩
        have HC5 := Lib.hid hc5
        clear hc5
        have HK12 := Lib.hid (HK12.out.below hb HK12.out.lt)
        have HLT12 := Lib.hid (Nat.lt_of_lt_of_le HLT12.out hb.size)
        have HBD := Lib.hid (HBD.out.trans (hb.mono HBD.out.size))
        clear hb
        have hst := HS.out.below HBD.out HS.out.lt
        refine hK.out _ _ ⟨hst.c0, hst.c1⟩ (fun hHeld => ?_)
        clear hK K hst
        refine norm_ (a' := ?_) ?_ ?_
        rotate_left
        · show Act.put _ (some 12) _ = _
          simp only [Act.put, List.setIfInBounds_toArray, List.set_cons_zero, List.set_cons_succ, i64_w, i32_w]
          rfl
        refine two_ (i := 11) (j := 13) (Ni := (some 18)) (Nj := (some 5)) #[true, true, true, true, true, true, true, true, true, true, true, true, true, false, false, false] #[true, true, true, true, true, true, true, true, true, true, true, false, true, true, false, false] rfl rfl rfl rfl (two_of HT_.out (by kernel_rfl)) (by decide) (by decide) ?_ ?_
        · skip
          intro K hK
          refine goes_ Try.func152 (by kernel_rfl) rfl #[.pointer (some ⟨BY, 0, none⟩)] (by rfl) rfl rfl (by (try simp only [List.map_toArray, List.map_cons, List.map_nil]); first | done | rfl) ?_
          refine (look_is (HY.out.below HBD.out (Nat.le_refl _)) HBY.out).mono ?_
          rintro e w3 ⟨A11, c11, rfl, hc11, hb⟩
          refine ⟨_, rfl, ?_⟩
          have HC11 := Lib.hid hc11
          clear hc11
          have HK12 := Lib.hid (HK12.out.below hb HK12.out.lt)
          have HC5 := Lib.hid (Kd.C_below HC5.out hb)
          have HLT12 := Lib.hid (Nat.lt_of_lt_of_le HLT12.out hb.size)
          have HBD := Lib.hid (HBD.out.trans (hb.mono HBD.out.size))
          clear hb
          have hst := HS.out.below HBD.out HS.out.lt
          refine hK.out _ _ ⟨hst.c0, hst.c1⟩ (fun hHeld => ?_)
          clear hK K hst
          refine norm_ (a' := ?_) ?_ ?_
          rotate_left
          · show Act.put _ (some 18) _ = _
            simp only [Act.put, List.setIfInBounds_toArray, List.set_cons_zero, List.set_cons_succ, i64_w, i32_w]
            rfl
          refine one_ (i := 13) (N := (some 5)) #[true, true, true, true, true, true, true, true, true, true, true, true, true, true, false, false] rfl rfl (one_of HT_.out (by kernel_rfl)) (by decide) ?_
          intro K hK
          refine value_ (w1 := ?_) (v := ?_) (by rfl) rfl ?_ ?_
          rotate_left 2
          · go_simp
            constructor
            · rfl
            · rfl
          have hb : Below w3.heap.size w3 (w3.alloc (.cells #[.slice none 0 0, .int .u64 0, .bool false] 165)) := (Below.refl _ _).alloc (Nat.le_refl _) _
          have HK12 := Lib.hid (HK12.out.below hb HK12.out.lt)
          have HC5 := Lib.hid (Kd.C_below HC5.out hb)
          have HC11 := Lib.hid (Kd.C_below HC11.out hb)
          have HK13 : Hid (HeldAt (w3.alloc (.cells #[.slice none 0 0, .int .u64 0, .bool false] 165)) w3.heap.size (.slice none 0 0) (.int .u64 0) (.bool false)) := Lib.hid (World.alloc_heap_new w3 _)
          have HP13 : Hid (w0.heap.size ≤ w3.heap.size) := Lib.hid HBD.out.size
          have HNE : Hid (w0.drew.heap.size ≠ w3.heap.size) := Lib.hid (by have := HLT12.out; omega)
          have HLT13 : Hid (w3.heap.size < (w3.alloc (.cells #[.slice none 0 0, .int .u64 0, .bool false] 165)).heap.size) := Lib.hid HK13.out.lt
          have HLT12 := Lib.hid (Nat.lt_of_lt_of_le HLT12.out hb.size)
          have HBD := Lib.hid (HBD.out.trans (hb.mono HBD.out.size))
          clear hb
          have hst := HS.out.below HBD.out HS.out.lt
          refine hK.out _ _ ⟨hst.c0, hst.c1⟩ (fun hHeld => ?_)
          clear hK K hst
          refine norm_ (a' := ?_) ?_ ?_
          rotate_left
          · show Act.put _ (some 5) _ = _
            simp only [Act.put, List.setIfInBounds_toArray, List.set_cons_zero, List.set_cons_succ, i64_w, i32_w]
            rfl
          exact norm_ (by rfl) (hcont (A5, c5, A11, c11, _, _) _ ⟨HS.out.below HBD.out HS.out.lt, HC5.out, HC11.out, HK12.out, HK13.out, HNE.out, HP12.out, HP13.out, HBD.out⟩)
        · skip
          intro K hK
          refine value_ (w1 := ?_) (v := ?_) (by rfl) rfl ?_ ?_
          rotate_left 2
          · go_simp
            constructor
            · rfl
            · rfl
          have hb : Below w2.heap.size w2 (w2.alloc (.cells #[.slice none 0 0, .int .u64 0, .bool false] 165)) := (Below.refl _ _).alloc (Nat.le_refl _) _
          have HK12 := Lib.hid (HK12.out.below hb HK12.out.lt)
          have HC5 := Lib.hid (Kd.C_below HC5.out hb)
          have HK13 : Hid (HeldAt (w2.alloc (.cells #[.slice none 0 0, .int .u64 0, .bool false] 165)) w2.heap.size (.slice none 0 0) (.int .u64 0) (.bool false)) := Lib.hid (World.alloc_heap_new w2 _)
          have HP13 : Hid (w0.heap.size ≤ w2.heap.size) := Lib.hid HBD.out.size
          have HNE : Hid (w0.drew.heap.size ≠ w2.heap.size) := Lib.hid (by have := HLT12.out; omega)
          have HLT13 : Hid (w2.heap.size < (w2.alloc (.cells #[.slice none 0 0, .int .u64 0, .bool false] 165)).heap.size) := Lib.hid HK13.out.lt
          have HLT12 := Lib.hid (Nat.lt_of_lt_of_le HLT12.out hb.size)
          have HBD := Lib.hid (HBD.out.trans (hb.mono HBD.out.size))
          clear hb
          have hst := HS.out.below HBD.out HS.out.lt
          refine hK.out _ _ ⟨hst.c0, hst.c1⟩ (fun hHeld => ?_)
          clear hK K hst
          refine norm_ (a' := ?_) ?_ ?_
          rotate_left
          · show Act.put _ (some 5) _ = _
            simp only [Act.put, List.setIfInBounds_toArray, List.set_cons_zero, List.set_cons_succ, i64_w, i32_w]
            rfl
          refine one_ (i := 11) (N := (some 18)) #[true, true, true, true, true, true, true, true, true, true, true, true, true, true, false, false] rfl rfl (one_of HT_.out (by kernel_rfl)) (by decide) ?_
          intro K hK
          refine goes_ Try.func152 (by kernel_rfl) rfl #[.pointer (some ⟨BY, 0, none⟩)] (by rfl) rfl rfl (by (try simp only [List.map_toArray, List.map_cons, List.map_nil]); first | done | rfl) ?_
          refine (look_is (HY.out.below HBD.out (Nat.le_refl _)) HBY.out).mono ?_
          rintro e w4 ⟨A11, c11, rfl, hc11, hb⟩
          refine ⟨_, rfl, ?_⟩
          have HC11 := Lib.hid hc11
          clear hc11
          have HK12 := Lib.hid (HK12.out.below hb HK12.out.lt)
          have HC5 := Lib.hid (Kd.C_below HC5.out hb)
          have HK13 := Lib.hid (HK13.out.below hb HK13.out.lt)
          have HLT12 := Lib.hid (Nat.lt_of_lt_of_le HLT12.out hb.size)
          have HLT13 := Lib.hid (Nat.lt_of_lt_of_le HLT13.out hb.size)
          have HBD := Lib.hid (HBD.out.trans (hb.mono HBD.out.size))
          clear hb
          have hst := HS.out.below HBD.out HS.out.lt
          refine hK.out _ _ ⟨hst.c0, hst.c1⟩ (fun hHeld => ?_)
          clear hK K hst
          refine norm_ (a' := ?_) ?_ ?_
          rotate_left
          · show Act.put _ (some 18) _ = _
            simp only [Act.put, List.setIfInBounds_toArray, List.set_cons_zero, List.set_cons_succ, i64_w, i32_w]
            rfl
          exact norm_ (by rfl) (hcont (A5, c5, A11, c11, _, _) _ ⟨HS.out.below HBD.out HS.out.lt, HC5.out, HC11.out, HK12.out, HK13.out, HNE.out, HP12.out, HP13.out, HBD.out⟩)
      · skip
        intro K hK
        refine value_ (w1 := ?_) (v := ?_) (by rfl) rfl ?_ ?_
        rotate_left 2
        · go_simp
          constructor
          · rfl
          · rfl
        have hb : Below (w0.drew.alloc (.cells #[.slice none 0 0, .int .u64 0, .bool false] 165)).heap.size (w0.drew.alloc (.cells #[.slice none 0 0, .int .u64 0, .bool false] 165)) ((w0.drew.alloc (.cells #[.slice none 0 0, .int .u64 0, .bool false] 165)).alloc (.cells #[.slice none 0 0, .int .u64 0, .bool false] 165)) := (Below.refl _ _).alloc (Nat.le_refl _) _
        have HK12 := Lib.hid (HK12.out.below hb HK12.out.lt)
        have HK13 : Hid (HeldAt ((w0.drew.alloc (.cells #[.slice none 0 0, .int .u64 0, .bool false] 165)).alloc (.cells #[.slice none 0 0, .int .u64 0, .bool false] 165)) (w0.drew.alloc (.cells #[.slice none 0 0, .int .u64 0, .bool false] 165)).heap.size (.slice none 0 0) (.int .u64 0) (.bool false)) := Lib.hid (World.alloc_heap_new (w0.drew.alloc (.cells #[.slice none 0 0, .int .u64 0, .bool false] 165)) _)
        have HP13 : Hid (w0.heap.size ≤ (w0.drew.alloc (.cells #[.slice none 0 0, .int .u64 0, .bool false] 165)).heap.size) := Lib.hid HBD.out.size
        have HNE : Hid (w0.drew.heap.size ≠ (w0.drew.alloc (.cells #[.slice none 0 0, .int .u64 0, .bool false] 165)).heap.size) := Lib.hid (by have := HLT12.out; omega)
        have HLT13 : Hid ((w0.drew.alloc (.cells #[.slice none 0 0, .int .u64 0, .bool false] 165)).heap.size < ((w0.drew.alloc (.cells #[.slice none 0 0, .int .u64 0, .bool false] 165)).alloc (.cells #[.slice none 0 0, .int .u64 0, .bool false] 165)).heap.size) := Lib.hid HK13.out.lt
        have HK13 := by have h := HK13.out; rw [World.size_alloc] at h; exact Lib.hid h
        have HP13 := by have h := HP13.out; rw [World.size_alloc] at h; exact Lib.hid h
        have HNE := by have h := HNE.out; rw [World.size_alloc] at h; exact Lib.hid h
        have HLT12 := Lib.hid (Nat.lt_of_lt_of_le HLT12.out hb.size)
        have HBD := Lib.hid (HBD.out.trans (hb.mono HBD.out.size))
        clear hb
        have hst := HS.out.below HBD.out HS.out.lt
        refine hK.out _ _ ⟨hst.c0, hst.c1⟩ (fun hHeld => ?_)
        clear hK K hst
        refine norm_ (a' := ?_) ?_ ?_
        rotate_left
        · show Act.put _ (some 5) _ = _
          simp only [Act.put, List.setIfInBounds_toArray, List.set_cons_zero, List.set_cons_succ, i64_w, i32_w]
          rfl
        refine one_ (i := 5) (N := (some 12)) #[true, true, true, true, true, true, true, true, true, true, true, false, true, true, false, false] rfl rfl (one_of HT_.out (by kernel_rfl)) (by decide) ?_
        intro K hK
        refine goes_ Try.func152 (by kernel_rfl) rfl #[.pointer (some ⟨BX, 0, none⟩)] (by rfl) rfl rfl (by (try simp only [List.map_toArray, List.map_cons, List.map_nil]); first | done | rfl) ?_
        refine (look_is (HX.out.below HBD.out (Nat.le_refl _)) HBX.out).mono ?_
        rintro e w3 ⟨A5, c5, rfl, hc5, hb⟩
        refine ⟨_, rfl, ?_⟩
        have HC5 := Lib.hid hc5
        clear hc5
        have HK12 := Lib.hid (HK12.out.below hb HK12.out.lt)
        have HK13 := Lib.hid (HK13.out.below hb HK13.out.lt)
        have HLT12 := Lib.hid (Nat.lt_of_lt_of_le HLT12.out hb.size)
        have HLT13 := Lib.hid (Nat.lt_of_lt_of_le HLT13.out hb.size)
        have HBD := Lib.hid (HBD.out.trans (hb.mono HBD.out.size))
        clear hb
        have hst := HS.out.below HBD.out HS.out.lt
        refine hK.out _ _ ⟨hst.c0, hst.c1⟩ (fun hHeld => ?_)
        clear hK K hst
        refine norm_ (a' := ?_) ?_ ?_
        rotate_left
        · show Act.put _ (some 12) _ = _
          simp only [Act.put, List.setIfInBounds_toArray, List.set_cons_zero, List.set_cons_succ, i64_w, i32_w]
          rfl
        refine one_ (i := 11) (N := (some 18)) #[true, true, true, true, true, true, true, true, true, true, true, true, true, true, false, false] rfl rfl (one_of HT_.out (by kernel_rfl)) (by decide) ?_
        intro K hK
        refine goes_ Try.func152 (by kernel_rfl) rfl #[.pointer (some ⟨BY, 0, none⟩)] (by rfl) rfl rfl (by (try simp only [List.map_toArray, List.map_cons, List.map_nil]); first | done | rfl) ?_
        refine (look_is (HY.out.below HBD.out (Nat.le_refl _)) HBY.out).mono ?_
        rintro e w4 ⟨A11, c11, rfl, hc11, hb⟩
        refine ⟨_, rfl, ?_⟩
        have HC11 := Lib.hid hc11
        clear hc11
        have HK12 := Lib.hid (HK12.out.below hb HK12.out.lt)
        have HK13 := Lib.hid (HK13.out.below hb HK13.out.lt)
        have HC5 := Lib.hid (Kd.C_below HC5.out hb)
        have HLT12 := Lib.hid (Nat.lt_of_lt_of_le HLT12.out hb.size)
        have HLT13 := Lib.hid (Nat.lt_of_lt_of_le HLT13.out hb.size)
        have HBD := Lib.hid (HBD.out.trans (hb.mono HBD.out.size))
        clear hb
        have hst := HS.out.below HBD.out HS.out.lt
        refine hK.out _ _ ⟨hst.c0, hst.c1⟩ (fun hHeld => ?_)
        clear hK K hst
        refine norm_ (a' := ?_) ?_ ?_
        rotate_left
        · show Act.put _ (some 18) _ = _
          simp only [Act.put, List.setIfInBounds_toArray, List.set_cons_zero, List.set_cons_succ, i64_w, i32_w]
          rfl
        exact norm_ (by rfl) (hcont (A5, c5, A11, c11, _, _) _ ⟨HS.out.below HBD.out HS.out.lt, HC5.out, HC11.out, HK12.out, HK13.out, HNE.out, HP12.out, HP13.out, HBD.out⟩)
    · skip
      intro K hK
      refine value_ (w1 := ?_) (v := ?_) (by rfl) rfl ?_ ?_
      rotate_left 2
      · go_simp
        constructor
        · rfl
        · rfl
      have hb : Below w0.drew.heap.size w0.drew (w0.drew.alloc (.cells #[.slice none 0 0, .int .u64 0, .bool false] 165)) := (Below.refl _ _).alloc (Nat.le_refl _) _
      have HK13 : Hid (HeldAt (w0.drew.alloc (.cells #[.slice none 0 0, .int .u64 0, .bool false] 165)) w0.drew.heap.size (.slice none 0 0) (.int .u64 0) (.bool false)) := Lib.hid (World.alloc_heap_new w0.drew _)
      have HP13 : Hid (w0.heap.size ≤ w0.drew.heap.size) := Lib.hid HBD.out.size
      have HLT13 : Hid (w0.drew.heap.size < (w0.drew.alloc (.cells #[.slice none 0 0, .int .u64 0, .bool false] 165)).heap.size) := Lib.hid HK13.out.lt
      have HBD := Lib.hid (HBD.out.trans (hb.mono HBD.out.size))
      clear hb
      have hst := HS.out.below HBD.out HS.out.lt
      refine hK.out _ _ ⟨hst.c0, hst.c1⟩ (fun hHeld => ?_)
      clear hK K hst
      refine norm_ (a' := ?_) ?_ ?_
      rotate_left
      · show Act.put _ (some 5) _ = _
        simp only [Act.put, List.setIfInBounds_toArray, List.set_cons_zero, List.set_cons_succ, i64_w, i32_w]
        rfl
      refine two_ (i := 5) (j := 12) (Ni := (some 12)) (Nj := (some 4)) #[true, true, true, true, true, true, true, true, true, true, true, false, false, true, false, false] #[true, true, true, true, true, false, true, true, true, true, true, false, true, true, false, false] rfl rfl rfl rfl (two_of HT_.out (by kernel_rfl)) (by decide) (by decide) ?_ ?_
      · skip
        intro K hK
        refine goes_ Try.func152 (by kernel_rfl) rfl #[.pointer (some ⟨BX, 0, none⟩)] (by rfl) rfl rfl (by (try simp only [List.map_toArray, List.map_cons, List.map_nil]); first | done | rfl) ?_
        refine (look_is (HX.out.below HBD.out (Nat.le_refl _)) HBX.out).mono ?_
        rintro e w2 ⟨A5, c5, rfl, hc5, hb⟩
        refine ⟨_, rfl, ?_⟩
        have HC5 := Lib.hid hc5
        clear hc5
        have HK13 := Lib.hid (HK13.out.below hb HK13.out.lt)
        have HLT13 := Lib.hid (Nat.lt_of_lt_of_le HLT13.out hb.size)
        have HBD := Lib.hid (HBD.out.trans (hb.mono HBD.out.size))
        clear hb
        have hst := HS.out.below HBD.out HS.out.lt
        refine hK.out _ _ ⟨hst.c0, hst.c1⟩ (fun hHeld => ?_)
        clear hK K hst
        refine norm_ (a' := ?_) ?_ ?_
        rotate_left
        · show Act.put _ (some 12) _ = _
          simp only [Act.put, List.setIfInBounds_toArray, List.set_cons_zero, List.set_cons_succ, i64_w, i32_w]
          rfl
        refine two_ (i := 11) (j := 12) (Ni := (some 18)) (Nj := (some 4)) #[true, true, true, true, true, true, true, true, true, true, true, true, false, true, false, false] #[true, true, true, true, true, true, true, true, true, true, true, false, true, true, false, false] rfl rfl rfl rfl (two_of HT_.out (by kernel_rfl)) (by decide) (by decide) ?_ ?_
        · skip
          intro K hK
          refine goes_ Try.func152 (by kernel_rfl) rfl #[.pointer (some ⟨BY, 0, none⟩)] (by rfl) rfl rfl (by (try simp only [List.map_toArray, List.map_cons, List.map_nil]); first | done | rfl) ?_
          refine (look_is (HY.out.below HBD.out (Nat.le_refl _)) HBY.out).mono ?_
          rintro e w3 ⟨A11, c11, rfl, hc11, hb⟩
          refine ⟨_, rfl, ?_⟩
          have HC11 := Lib.hid hc11
          clear hc11
          have HK13 := Lib.hid (HK13.out.below hb HK13.out.lt)
          have HC5 := Lib.hid (Kd.C_below HC5.out hb)
          have HLT13 := Lib.hid (Nat.lt_of_lt_of_le HLT13.out hb.size)
          have HBD := Lib.hid (HBD.out.trans (hb.mono HBD.out.size))
          clear hb
          have hst := HS.out.below HBD.out HS.out.lt
          refine hK.out _ _ ⟨hst.c0, hst.c1⟩ (fun hHeld => ?_)
          clear hK K hst
          refine norm_ (a' := ?_) ?_ ?_
          rotate_left
          · show Act.put _ (some 18) _ = _
            simp only [Act.put, List.setIfInBounds_toArray, List.set_cons_zero, List.set_cons_succ, i64_w, i32_w]
            rfl
          refine one_ (i := 12) (N := (some 4)) #[true, true, true, true, true, true, true, true, true, true, true, true, true, true, false, false] rfl rfl (one_of HT_.out (by kernel_rfl)) (by decide) ?_
          intro K hK
          refine value_ (w1 := ?_) (v := ?_) (by rfl) rfl ?_ ?_
          rotate_left 2
          · go_simp
            constructor
            · rfl
            · rfl
          have hb : Below w3.heap.size w3 (w3.alloc (.cells #[.slice none 0 0, .int .u64 0, .bool false] 165)) := (Below.refl _ _).alloc (Nat.le_refl _) _
          have HK13 := Lib.hid (HK13.out.below hb HK13.out.lt)
          have HC5 := Lib.hid (Kd.C_below HC5.out hb)
          have HC11 := Lib.hid (Kd.C_below HC11.out hb)
          have HK12 : Hid (HeldAt (w3.alloc (.cells #[.slice none 0 0, .int .u64 0, .bool false] 165)) w3.heap.size (.slice none 0 0) (.int .u64 0) (.bool false)) := Lib.hid (World.alloc_heap_new w3 _)
          have HP12 : Hid (w0.heap.size ≤ w3.heap.size) := Lib.hid HBD.out.size
          have HNE : Hid (w3.heap.size ≠ w0.drew.heap.size) := Lib.hid (by have := HLT13.out; omega)
          have HLT12 : Hid (w3.heap.size < (w3.alloc (.cells #[.slice none 0 0, .int .u64 0, .bool false] 165)).heap.size) := Lib.hid HK12.out.lt
          have HLT13 := Lib.hid (Nat.lt_of_lt_of_le HLT13.out hb.size)
          have HBD := Lib.hid (HBD.out.trans (hb.mono HBD.out.size))
          clear hb
          have hst := HS.out.below HBD.out HS.out.lt
          refine hK.out _ _ ⟨hst.c0, hst.c1⟩ (fun hHeld => ?_)
          clear hK K hst
          refine norm_ (a' := ?_) ?_ ?_
          rotate_left
          · show Act.put _ (some 4) _ = _
            simp only [Act.put, List.setIfInBounds_toArray, List.set_cons_zero, List.set_cons_succ, i64_w, i32_w]
            rfl
          exact norm_ (by rfl) (hcont (A5, c5, A11, c11, _, _) _ ⟨HS.out.below HBD.out HS.out.lt, HC5.out, HC11.out, HK12.out, HK13.out, HNE.out, HP12.out, HP13.out, HBD.out⟩)
        · skip
          intro K hK
          refine value_ (w1 := ?_) (v := ?_) (by rfl) rfl ?_ ?_
          rotate_left 2
          · go_simp
            constructor
            · rfl
            · rfl
          have hb : Below w2.heap.size w2 (w2.alloc (.cells #[.slice none 0 0, .int .u64 0, .bool false] 165)) := (Below.refl _ _).alloc (Nat.le_refl _) _
          have HK13 := Lib.hid (HK13.out.below hb HK13.out.lt)
          have HC5 := Lib.hid (Kd.C_below HC5.out hb)
          have HK12 : Hid (HeldAt (w2.alloc (.cells #[.slice none 0 0, .int .u64 0, .bool false] 165)) w2.heap.size (.slice none 0 0) (.int .u64 0) (.bool false)) := Lib.hid (World.alloc_heap_new w2 _)
          have HP12 : Hid (w0.heap.size ≤ w2.heap.size) := Lib.hid HBD.out.size
          have HNE : Hid (w2.heap.size ≠ w0.drew.heap.size) := Lib.hid (by have := HLT13.out; omega)
          have HLT12 : Hid (w2.heap.size < (w2.alloc (.cells #[.slice none 0 0, .int .u64 0, .bool false] 165)).heap.size) := Lib.hid HK12.out.lt
          have HLT13 := Lib.hid (Nat.lt_of_lt_of_le HLT13.out hb.size)
          have HBD := Lib.hid (HBD.out.trans (hb.mono HBD.out.size))
          clear hb
          have hst := HS.out.below HBD.out HS.out.lt
          refine hK.out _ _ ⟨hst.c0, hst.c1⟩ (fun hHeld => ?_)
          clear hK K hst
          refine norm_ (a' := ?_) ?_ ?_
          rotate_left
          · show Act.put _ (some 4) _ = _
            simp only [Act.put, List.setIfInBounds_toArray, List.set_cons_zero, List.set_cons_succ, i64_w, i32_w]
            rfl
          refine one_ (i := 11) (N := (some 18)) #[true, true, true, true, true, true, true, true, true, true, true, true, true, true, false, false] rfl rfl (one_of HT_.out (by kernel_rfl)) (by decide) ?_
          intro K hK
          refine goes_ Try.func152 (by kernel_rfl) rfl #[.pointer (some ⟨BY, 0, none⟩)] (by rfl) rfl rfl (by (try simp only [List.map_toArray, List.map_cons, List.map_nil]); first | done | rfl) ?_
          refine (look_is (HY.out.below HBD.out (Nat.le_refl _)) HBY.out).mono ?_
          rintro e w4 ⟨A11, c11, rfl, hc11, hb⟩
          refine ⟨_, rfl, ?_⟩
          have HC11 := Lib.hid hc11
          clear hc11
          have HK13 := Lib.hid (HK13.out.below hb HK13.out.lt)
          have HC5 := Lib.hid (Kd.C_below HC5.out hb)
          have HK12 := Lib.hid (HK12.out.below hb HK12.out.lt)
          have HLT13 := Lib.hid (Nat.lt_of_lt_of_le HLT13.out hb.size)
          have HLT12 := Lib.hid (Nat.lt_of_lt_of_le HLT12.out hb.size)
          have HBD := Lib.hid (HBD.out.trans (hb.mono HBD.out.size))
          clear hb
          have hst := HS.out.below HBD.out HS.out.lt
          refine hK.out _ _ ⟨hst.c0, hst.c1⟩ (fun hHeld => ?_)
          clear hK K hst
          refine norm_ (a' := ?_) ?_ ?_
          rotate_left
          · show Act.put _ (some 18) _ = _
            simp only [Act.put, List.setIfInBounds_toArray, List.set_cons_zero, List.set_cons_succ, i64_w, i32_w]
            rfl
          exact norm_ (by rfl) (hcont (A5, c5, A11, c11, _, _) _ ⟨HS.out.below HBD.out HS.out.lt, HC5.out, HC11.out, HK12.out, HK13.out, HNE.out, HP12.out, HP13.out, HBD.out⟩)
      · skip
        intro K hK
        refine value_ (w1 := ?_) (v := ?_) (by rfl) rfl ?_ ?_
        rotate_left 2
        · go_simp
          constructor
          · rfl
          · rfl
        have hb : Below (w0.drew.alloc (.cells #[.slice none 0 0, .int .u64 0, .bool false] 165)).heap.size (w0.drew.alloc (.cells #[.slice none 0 0, .int .u64 0, .bool false] 165)) ((w0.drew.alloc (.cells #[.slice none 0 0, .int .u64 0, .bool false] 165)).alloc (.cells #[.slice none 0 0, .int .u64 0, .bool false] 165)) := (Below.refl _ _).alloc (Nat.le_refl _) _
        have HK13 := Lib.hid (HK13.out.below hb HK13.out.lt)
        have HK12 : Hid (HeldAt ((w0.drew.alloc (.cells #[.slice none 0 0, .int .u64 0, .bool false] 165)).alloc (.cells #[.slice none 0 0, .int .u64 0, .bool false] 165)) (w0.drew.alloc (.cells #[.slice none 0 0, .int .u64 0, .bool false] 165)).heap.size (.slice none 0 0) (.int .u64 0) (.bool false)) := Lib.hid (World.alloc_heap_new (w0.drew.alloc (.cells #[.slice none 0 0, .int .u64 0, .bool false] 165)) _)
        have HP12 : Hid (w0.heap.size ≤ (w0.drew.alloc (.cells #[.slice none 0 0, .int .u64 0, .bool false] 165)).heap.size) := Lib.hid HBD.out.size
        have HNE : Hid ((w0.drew.alloc (.cells #[.slice none 0 0, .int .u64 0, .bool false] 165)).heap.size ≠ w0.drew.heap.size) := Lib.hid (by have := HLT13.out; omega)
        have HLT12 : Hid ((w0.drew.alloc (.cells #[.slice none 0 0, .int .u64 0, .bool false] 165)).heap.size < ((w0.drew.alloc (.cells #[.slice none 0 0, .int .u64 0, .bool false] 165)).alloc (.cells #[.slice none 0 0, .int .u64 0, .bool false] 165)).heap.size) := Lib.hid HK12.out.lt
        have HK12 := by have h := HK12.out; rw [World.size_alloc] at h; exact Lib.hid h
        have HP12 := by have h := HP12.out; rw [World.size_alloc] at h; exact Lib.hid h
        have HNE := by have h := HNE.out; rw [World.size_alloc] at h; exact Lib.hid h
        have HLT13 := Lib.hid (Nat.lt_of_lt_of_le HLT13.out hb.size)
        have HBD := Lib.hid (HBD.out.trans (hb.mono HBD.out.size))
        clear hb
        have hst := HS.out.below HBD.out HS.out.lt
        refine hK.out _ _ ⟨hst.c0, hst.c1⟩ (fun hHeld => ?_)
        clear hK K hst
        refine norm_ (a' := ?_) ?_ ?_
        rotate_left
        · show Act.put _ (some 4) _ = _
          simp only [Act.put, List.setIfInBounds_toArray, List.set_cons_zero, List.set_cons_succ, i64_w, i32_w]
          rfl
        refine one_ (i := 5) (N := (some 12)) #[true, true, true, true, true, true, true, true, true, true, true, false, true, true, false, false] rfl rfl (one_of HT_.out (by kernel_rfl)) (by decide) ?_
        intro K hK
        refine goes_ Try.func152 (by kernel_rfl) rfl #[.pointer (some ⟨BX, 0, none⟩)] (by rfl) rfl rfl (by (try simp only [List.map_toArray, List.map_cons, List.map_nil]); first | done | rfl) ?_
        refine (look_is (HX.out.below HBD.out (Nat.le_refl _)) HBX.out).mono ?_
        rintro e w3 ⟨A5, c5, rfl, hc5, hb⟩
        refine ⟨_, rfl, ?_⟩
        have HC5 := Lib.hid hc5
        clear hc5
        have HK13 := Lib.hid (HK13.out.below hb HK13.out.lt)
        have HK12 := Lib.hid (HK12.out.below hb HK12.out.lt)
        have HLT13 := Lib.hid (Nat.lt_of_lt_of_le HLT13.out hb.size)
        have HLT12 := Lib.hid (Nat.lt_of_lt_of_le HLT12.out hb.size)
        have HBD := Lib.hid (HBD.out.trans (hb.mono HBD.out.size))
        clear hb
        have hst := HS.out.below HBD.out HS.out.lt
        refine hK.out _ _ ⟨hst.c0, hst.c1⟩ (fun hHeld => ?_)
        clear hK K hst
        refine norm_ (a' := ?_) ?_ ?_
        rotate_left
        · show Act.put _ (some 12) _ = _
          simp only [Act.put, List.setIfInBounds_toArray, List.set_cons_zero, List.set_cons_succ, i64_w, i32_w]
          rfl
        refine one_ (i := 11) (N := (some 18)) #[true, true, true, true, true, true, true, true, true, true, true, true, true, true, false, false] rfl rfl (one_of HT_.out (by kernel_rfl)) (by decide) ?_
        intro K hK
        refine goes_ Try.func152 (by kernel_rfl) rfl #[.pointer (some ⟨BY, 0, none⟩)] (by rfl) rfl rfl (by (try simp only [List.map_toArray, List.map_cons, List.map_nil]); first | done | rfl) ?_
        refine (look_is (HY.out.below HBD.out (Nat.le_refl _)) HBY.out).mono ?_
        rintro e w4 ⟨A11, c11, rfl, hc11, hb⟩
        refine ⟨_, rfl, ?_⟩
        have HC11 := Lib.hid hc11
        clear hc11
        have HK13 := Lib.hid (HK13.out.below hb HK13.out.lt)
        have HK12 := Lib.hid (HK12.out.below hb HK12.out.lt)
        have HC5 := Lib.hid (Kd.C_below HC5.out hb)
        have HLT13 := Lib.hid (Nat.lt_of_lt_of_le HLT13.out hb.size)
        have HLT12 := Lib.hid (Nat.lt_of_lt_of_le HLT12.out hb.size)
        have HBD := Lib.hid (HBD.out.trans (hb.mono HBD.out.size))
        clear hb
        have hst := HS.out.below HBD.out HS.out.lt
        refine hK.out _ _ ⟨hst.c0, hst.c1⟩ (fun hHeld => ?_)
        clear hK K hst
        refine norm_ (a' := ?_) ?_ ?_
        rotate_left
        · show Act.put _ (some 18) _ = _
          simp only [Act.put, List.setIfInBounds_toArray, List.set_cons_zero, List.set_cons_succ, i64_w, i32_w]
          rfl
        exact norm_ (by rfl) (hcont (A5, c5, A11, c11, _, _) _ ⟨HS.out.below HBD.out HS.out.lt, HC5.out, HC11.out, HK12.out, HK13.out, HNE.out, HP12.out, HP13.out, HBD.out⟩)
  rintro ⟨A1, c1, A2, c2, P4, P5⟩ w3 hN
  obtain ⟨⟨bx, gx, ix⟩, hhx⟩ : ∃ r, heldF xs = r := ⟨_, rfl⟩
  obtain ⟨⟨byy, gy, iy⟩, hhy⟩ : ∃ r, heldF ys = r := ⟨_, rfl⟩
  rw [hhx, hhy] at hN ⊢
  have HN := Lib.hid hN
  have hN4 : Hid (S < P4 ∧ S < P5 ∧ w.heap.size < P4 ∧ w.heap.size < P5) := Lib.hid (by have h1 : w0.heap.size ≤ P4 := hN.p4; have h2 : w0.heap.size ≤ P5 := hN.p5; have := HZ0.out; omega)
  have k4 := hN.k4
  have a0 := k4.c0
  have a1 := k4.c1
  have a2 := k4.c2
  have f0 := k4.f 0
  have f1 := k4.f 1
  have f2 := k4.f 2
  have HHX := Lib.hid hhx
  have HHY := Lib.hid hhy
  clear hN k4 hhx hhy
  refine norm_ (a' := ?_) ?_ ?_
  rotate_left
  · simp only [putAll, Act.put, List.setIfInBounds_toArray, List.set_cons_zero, List.set_cons_succ, i64_w, i32_w]
    rfl
  refine one_ (i := 14) (N := none) #[true, true, true, true, true, true, true, true, true, true, true, true, true, true, true, false] rfl rfl (one_of HT_.out (by kernel_rfl)) (by decide) ?_
  intro K hK
  refine skip_ (w1 := set3 w3 P4 (.slice A1 bx.length c1) (.int .u64 gx) (.bool ix)) (by rfl) rfl ?_ ?_
  · unfold hval set3
    go_simp
  clear a0 a1 a2 f0 f1 f2
  have h4 := HN.out
  have st4 : StoreS (set3 w3 P4 (.slice A1 bx.length c1) (.int .u64 gx) (.bool ix)) S BX BY := h4.st.move (set3_heap _ _ _ _ _ _ (by have := hN4.out; omega))
  have q4 : HeldAt (set3 w3 P4 (.slice A1 bx.length c1) (.int .u64 gx) (.bool ix)) P4 (.slice A1 bx.length c1) (.int .u64 gx) (.bool ix) := h4.k4.put _ _ _
  have q5 : HeldAt (set3 w3 P4 (.slice A1 bx.length c1) (.int .u64 gx) (.bool ix)) P5 (.slice none 0 0) (.int .u64 0) (.bool false) := (set3_heap _ _ _ _ _ _ h4.ne.symm).trans h4.k5
  have cx : Kd.C (Kd.int .u8) (set3 w3 P4 (.slice A1 bx.length c1) (.int .u64 gx) (.bool ix)) A1 bx.length bx := C_held h4.x h4.k4 (fun k hk => set3_heap _ _ _ _ _ _ hk)
  have cy : Kd.C (Kd.int .u8) (set3 w3 P4 (.slice A1 bx.length c1) (.int .u64 gx) (.bool ix)) A2 byy.length byy := C_held h4.y h4.k4 (fun k hk => set3_heap _ _ _ _ _ _ hk)
  have b4 : Below w0.heap.size w0 (set3 w3 P4 (.slice A1 bx.length c1) (.int .u64 gx) (.bool ix)) := set3_below h4.be _ h4.p4 _ _ _
  have ne := h4.ne
  have p5 := h4.p5
  have p4 := h4.p4
  clear h4 HN
  refine hK.out _ _ ⟨st4.c0, st4.c1⟩ (fun hHeld => ?_)
  clear hK K
  obtain ⟨w4, hw4⟩ : ∃ w4, set3 w3 P4 (.slice A1 bx.length c1) (.int .u64 gx) (.bool ix) = w4 := ⟨_, rfl⟩
  rw [hw4] at st4 q4 q5 cx cy b4 hHeld ⊢
  clear hw4
  have H4 : Hid (StoreS w4 S BX BY ∧ HeldAt w4 P4 (.slice A1 bx.length c1) (.int .u64 gx) (.bool ix) ∧ HeldAt w4 P5 (.slice none 0 0) (.int .u64 0) (.bool false) ∧ Kd.C (Kd.int .u8) w4 A1 bx.length bx ∧ Kd.C (Kd.int .u8) w4 A2 byy.length byy ∧ Below w0.heap.size w0 w4 ∧ P4 ≠ P5 ∧ w0.heap.size ≤ P4 ∧ w0.heap.size ≤ P5) := Lib.hid ⟨st4, q4, q5, cx, cy, b4, ne, p4, p5⟩
  have a0 := q5.c0
  have a1 := q5.c1
  have a2 := q5.c2
  have f0 := q5.f 0
  have f1 := q5.f 1
  have f2 := q5.f 2
  clear st4 q4 q5 cx cy b4 ne p4 p5 HBD hS0
  refine one_ (i := 15) (N := none) #[true, true, true, true, true, true, true, true, true, true, true, true, true, true, true, true] rfl rfl (one_of HT_.out (by kernel_rfl)) (by decide) ?_
  intro K hK
  refine skip_ (w1 := set3 w4 P5 (.slice A2 byy.length c2) (.int .u64 gy) (.bool iy)) (by rfl) rfl ?_ ?_
  · unfold hval set3
    go_simp
  clear a0 a1 a2 f0 f1 f2
  obtain ⟨h1, h2, h3, h4, h5, h6, h7, h8, h9⟩ := H4.out
  have st4 : StoreS (set3 w4 P5 (.slice A2 byy.length c2) (.int .u64 gy) (.bool iy)) S BX BY := h1.move (set3_heap _ _ _ _ _ _ (by have := hN4.out; omega))
  have q4 : HeldAt (set3 w4 P5 (.slice A2 byy.length c2) (.int .u64 gy) (.bool iy)) P4 (.slice A1 bx.length c1) (.int .u64 gx) (.bool ix) := (set3_heap _ _ _ _ _ _ h7).trans h2
  have q5 : HeldAt (set3 w4 P5 (.slice A2 byy.length c2) (.int .u64 gy) (.bool iy)) P5 (.slice A2 byy.length c2) (.int .u64 gy) (.bool iy) := h3.put _ _ _
  have cx : Kd.C (Kd.int .u8) (set3 w4 P5 (.slice A2 byy.length c2) (.int .u64 gy) (.bool iy)) A1 bx.length bx := C_held h4 h3 (fun k hk => set3_heap _ _ _ _ _ _ hk)
  have cy : Kd.C (Kd.int .u8) (set3 w4 P5 (.slice A2 byy.length c2) (.int .u64 gy) (.bool iy)) A2 byy.length byy := C_held h5 h3 (fun k hk => set3_heap _ _ _ _ _ _ hk)
  have b4 : Below w0.heap.size w0 (set3 w4 P5 (.slice A2 byy.length c2) (.int .u64 gy) (.bool iy)) := set3_below h6 _ h9 _ _ _
  refine hK.out _ _ ⟨st4.c0, st4.c1⟩ (fun hHeld => ?_)
  clear hK K
  obtain ⟨w5, hw5⟩ : ∃ w5, set3 w4 P5 (.slice A2 byy.length c2) (.int .u64 gy) (.bool iy) = w5 := ⟨_, rfl⟩
  rw [hw5] at st4 q4 q5 cx cy b4 hHeld ⊢
  clear hw5 h1 h2 h3 h4 h5 h6 h7 h8 h9 H4
  refine done_ (done_of HT_.out (by kernel_rfl)) ?_
  have q0 : HeldAt w5 w.heap.size (.slice none 0 0) (.int .u64 0) (.bool false) := HK0.out.below b4 (by have := HZ0.out; omega)
  have b5 : Below w.heap.size w w5 := HB0.out.trans (b4.mono HB0.out.size)
  have r0 := q0.c0
  have r1 := q0.c1
  have r2 := q0.c2
  have g0 := q0.f 0
  have g1 := q0.f 1
  have g2 := q0.f 2
  have x0 := q4.c0
  have x1 := q4.c1
  have x2 := q4.c2
  have y0 := q5.c0
  have y1 := q5.c1
  have y2 := q5.c2
  have HQ := Lib.hid (And.intro q4 q5)
  have HQ0 := Lib.hid q0
  have HCX := Lib.hid cx
  have HCY := Lib.hid cy
  have HB5 := Lib.hid b5
  clear st4 q4 q5 cx cy b4 q0 b5 hHeld HT_ HW_ HS HX HY HBX HBY HK0
  have hf : firstF (bx, gx, ix) (byy, gy, iy) = (ix && (!iy || decide (gy ≤ gx))) := rfl
  have hnew : nw = if (ix && (!iy || decide (gy ≤ gx))) = true then ((bx, gx, ix), 1) else if iy = true then ((byy, gy, iy), 0) else (([], 0, false), 0) := by rw [← HNW.out, HHX.out, HHY.out]; rfl
  clear hf
  obtain ⟨ff, hff⟩ : ∃ ff, (ix && (!iy || decide (gy ≤ gx))) = ff := ⟨_, rfl⟩
  rw [hff] at hnew
  have HFF := Lib.hid hff
  clear hff
  cases ff
  · cases iy
    · rw [if_neg (by simp), if_neg (by simp)] at hnew
      subst hnew
      go_wp2_with (go_at_call 153; refine (first_is HQ.out.1 HQ.out.2).mono ?_; rintro e w' ⟨rfl, rfl⟩; rw [HFF.out])
      have HP := Lib.hid (HQ0.out.put (.slice none 0 0) (.int .u64 0) (.bool false))
      have d0 := HP.out.c0
      have d1 := HP.out.c1
      have d2 := HP.out.c2
      refine bodyPost_ret (v := .tuple #[.agg #[.slice none 0 0, .int .u64 0, .bool false], .int .i64 0]) (by simp [results, Try.results114, go_sem, d0, d1, d2]) rfl ?_
      refine ⟨none, ⟨0, rfl⟩, ?_, ((HB5.out.setCell (Nat.le_refl _) _).setCell (Nat.le_refl _) _).setCell (Nat.le_refl _) _⟩
      exact C_nil _ _
    · rw [if_neg (by simp), if_pos rfl] at hnew
      subst hnew
      go_wp2_with (go_at_call 153; refine (first_is HQ.out.1 HQ.out.2).mono ?_; rintro e w' ⟨rfl, rfl⟩; rw [HFF.out])
      have HP := Lib.hid (HQ0.out.put (.slice A2 byy.length c2) (.int .u64 gy) (.bool true))
      have d0 := HP.out.c0
      have d1 := HP.out.c1
      have d2 := HP.out.c2
      refine bodyPost_ret (v := .tuple #[.agg #[.slice A2 byy.length c2, .int .u64 gy, .bool true], .int .i64 0]) (by simp [results, Try.results114, go_sem, d0, d1, d2]) rfl ?_
      refine ⟨A2, ⟨c2, rfl⟩, ?_, ((HB5.out.setCell (Nat.le_refl _) _).setCell (Nat.le_refl _) _).setCell (Nat.le_refl _) _⟩
      exact C_held HCY.out HQ0.out (fun k hk => set3_heap _ _ _ _ _ _ hk)
  · rw [if_pos rfl] at hnew
    subst hnew
    go_wp2_with (go_at_call 153; refine (first_is HQ.out.1 HQ.out.2).mono ?_; rintro e w' ⟨rfl, rfl⟩; rw [HFF.out])
    have HP := Lib.hid (HQ0.out.put (.slice A1 bx.length c1) (.int .u64 gx) (.bool ix))
    have d0 := HP.out.c0
    have d1 := HP.out.c1
    have d2 := HP.out.c2
    refine bodyPost_ret (v := .tuple #[.agg #[.slice A1 bx.length c1, .int .u64 gx, .bool ix], .int .i64 1]) (by simp [results, Try.results114, go_sem, d0, d1, d2]) rfl ?_
    refine ⟨A1, ⟨c1, rfl⟩, ?_, ((HB5.out.setCell (Nat.le_refl _) _).setCell (Nat.le_refl _) _).setCell (Nat.le_refl _) _⟩
    exact C_held HCX.out HQ0.out (fun k hk => set3_heap _ _ _ _ _ _ hk)
end Go.Proofs.Ytmbnjgnmblgjoaa.Man
