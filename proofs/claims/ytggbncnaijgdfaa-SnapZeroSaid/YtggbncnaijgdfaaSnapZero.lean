/- The statement SnapZero, stepped through: a store that nobody made answers nothing. -/
import Derived.Test.YtggbncnaijgdfaaDisk
import Derived.LaidEqlPtr
namespace Go.Proofs.Ytggbncnaijgdfaa.Man
open Go.RowKit Go.Proofs.YtggbncnaijgdfaaW.PrintWords Go.Proofs.YtggbncnaijgdfaaW.PrintLast
set_option linter.unusedVariables false
set_option linter.unusedSimpArgs false

theorem DiskAt.below {w w' : World} {B n : Nat} {v : Value} {s m : Int} {made : Bool} (h : DiskAt w B v s m made) (hb : Below n w w') (hn : B < n) : DiskAt w' B v s m made := (hb.block B hn).trans h
theorem DiskAt.lt {w : World} {B : Nat} {v : Value} {s m : Int} {made : Bool} (h : DiskAt w B v s m made) : B < w.heap.size := (Array.getElem?_eq_some_iff.1 h).1
theorem DiskAt.f0 {w : World} {B : Nat} {v : Value} {s m : Int} {made : Bool} (h : DiskAt w B v s m made) (k : Nat) : w.frozen? ⟨B, k, none⟩ = false := by simp [World.frozen?, show w.heap[B]? = _ from h]
theorem DiskAt.set0 {w : World} {B : Nat} {v : Value} {s m : Int} {made : Bool} (h : DiskAt w B v s m made) (v' : Value) : DiskAt (w.setCell ⟨B, 0, none⟩ v') B v' s m made := by
  unfold DiskAt World.setCell
  simp [Array.getElem?_modify, show w.heap[B]? = _ from h]

/-- An empty disk. -/
theorem new_disk (n : Int) (w : World) (h0 : 0 ≤ n) (h1 : n ≤ 262144) : Calls Try.prog 17 #[.int .i64 n] w fun e w' => e = .returned (.tuple #[.pointer (some ⟨w.heap.size, 0, none⟩), .int .i64 0]) ∧ DiskAt w' w.heap.size (.slice none 0 0) 0 n true ∧ Below w.heap.size w w' := by
  go_enter Try.func17, Try.ntmps17
  go_wp2
  go_ret2
  exact ⟨rfl, World.alloc_heap_new w _, (Below.refl _ _).alloc (Nat.le_refl _) _⟩
theorem append_nothing (w : World) (B : Nat) (s m : Int) (h : DiskAt w B (.slice none 0 0) s m true) (h0 : 0 ≤ m) (h1 : m ≤ 262144) : Calls Try.prog 25 #[.pointer (some ⟨B, 0, none⟩), .slice none 0 0] w fun e w' => e = .returned (.int .i64 0) ∧ DiskAt w' B (.slice none 0 0) s m true ∧ Below B w w' := by
  have c0 := h.c0
  have c2 := h.c2
  have f0 := h.f0 0
  have hs := Lib.hid h
  go_enter Try.func25, Try.ntmps25
  go_wp2_with (go_at_call 44; refine (none_at _ _ _ _ _ _ hs.out).mono ?_; rintro e w' ⟨rfl, rfl⟩)
  go_quiet (fail)
  go_wp2
  go_ret
  have hd : DiskAt (w.drewN nq) B (.slice none 0 0) s m true := (congrArg (·[B]?) (World.heap_drewN w nq)).trans h
  refine ⟨rfl, hd.set0 _, Below.setCell (p := ⟨B, 0, none⟩) ?_ (Nat.le_refl B) _⟩
  exact ⟨rfl, rfl, rfl, Nat.le_of_eq (congrArg Array.size (World.heap_drewN w nq).symm), fun k _ => congrArg (·[k]?) (World.heap_drewN w nq)⟩

theorem idx0 (c0 c1 : Value) (W : World) : (Instr.index 50 (.agg #[c0, c1]) (.int .i64 0)).run Try.prog W = .ok c0 W := by kernel_rfl
theorem idx1 (c0 c1 : Value) (W : World) : (Instr.index 50 (.agg #[c0, c1]) (.int .i64 1)).run Try.prog W = .ok c1 W := by kernel_rfl
theorem same_disk (B : Nat) (w : World) : (binOp .eql 40 (.pointer (some ⟨B, 0, none⟩)) (.pointer (some ⟨B, 0, none⟩))).run Try.prog w = .ok (.bool true) w := by
  obtain ⟨j, hj⟩ : ∃ j, Try.prog.info? 76 = some j := Option.isSome_iff_exists.1 (by kernel_rfl)
  exact run_eql_ptr_same w _ (by kernel_rfl) hj
theorem index_ev {ops : Array Oper} {rest : List Oper} {o : Oper} {a : Act} {Q : Exit → Act → World → Prop} {w : World} (hgd : o.guard = none) (x i : Operand) (ho : o.op = .index 50 x i) {cs : Array Value} {k : Int} {v : Value}
    (hx : a.eval x = .agg cs) (hi : a.eval i = .int .i64 k) (hr : (Instr.index 50 (.agg cs) (.int .i64 k)).run Try.prog w = .ok v w) (h : wpList Try.prog ops Q rest (a.put o.dst v) w) : wpList Try.prog ops Q (o :: rest) a w := by
  refine Kd.event_run hgd ?_ h
  unfold execOp
  rw [ho]
  simp [hx, hi, hr]
set_option maxRecDepth 100000 in
set_option maxHeartbeats 4000000 in
theorem snapnew_nil (q : Option Addr) (w : World) : Calls Try.prog 18 #[.pointer none, .pointer q] w fun e w' => e = .returned (.tuple #[.pointer none, .int .i64 7]) ∧ w = w' := by
  go_enter Try.func18, Try.ntmps18
  go_wp2
  go_loopw [12] (fun i wr => i = .int .i64 0 ∧ w = wr) (fun i _ => 2 - (intOf i).toNat)
  case atStart => exact ⟨rfl, rfl⟩
  case round =>
    obtain ⟨rfl, rfl⟩ := hrel
    go_wp2_with (first | (refine index_ev rfl _ _ rfl rfl rfl (idx0 _ _ _) ?_) | (go_at_call 25; refine (append_no _ _ _ _ _ (.inl rfl)).mono ?_; rintro e w' ⟨rfl, rfl⟩))
    go_ret2
    exact ⟨rfl, rfl⟩
set_option maxRecDepth 100000 in
set_option maxHeartbeats 4000000 in
theorem snapnew_same (B : Nat) (s m : Int) (w : World) (h : DiskAt w B (.slice none 0 0) s m true) (h0 : 0 ≤ m) (h1 : m ≤ 262144) : Calls Try.prog 18 #[.pointer (some ⟨B, 0, none⟩), .pointer (some ⟨B, 0, none⟩)] w fun e w' => e = .returned (.tuple #[.pointer none, .int .i64 1]) ∧ Below B w w' := by
  have H := Lib.hid h
  clear h
  go_enter Try.func18, Try.ntmps18
  go_wp2
  go_loopw [12] (fun i wr => ∃ k : Nat, k ≤ 2 ∧ i = .int .i64 k ∧ DiskAt wr B (.slice none 0 0) s m true ∧ Below B w wr) (fun i _ => 2 - (intOf i).toNat)
  case atStart => exact ⟨0, by omega, rfl, H.out, Below.refl _ _⟩
  case round =>
    obtain ⟨k, hk, rfl, hd, hb⟩ := hrel
    have HD := Lib.hid hd
    have HB := Lib.hid hb
    clear hd hb
    match k, hk with
    | 0, _ =>
      go_wp2_with (first | (refine index_ev rfl _ _ rfl rfl rfl (idx0 _ _ _) ?_) | (refine index_ev rfl _ _ rfl rfl rfl (idx1 _ _ _) ?_) | (go_at_call 25; refine (append_nothing _ _ _ _ HD.out h0 h1).mono ?_; rintro e w' ⟨rfl, hd', hb'⟩))
      go_roundw
      case rel => exact ⟨1, by omega, rfl, hd', HB.out.trans hb'⟩
      case measure => simp [intOf]
    | 1, _ =>
      go_wp2_with (first | (refine index_ev rfl _ _ rfl rfl rfl (idx0 _ _ _) ?_) | (refine index_ev rfl _ _ rfl rfl rfl (idx1 _ _ _) ?_) | (go_at_call 25; refine (append_nothing _ _ _ _ HD.out h0 h1).mono ?_; rintro e w' ⟨rfl, hd', hb'⟩))
      go_roundw
      case rel => exact ⟨2, by omega, rfl, hd', HB.out.trans hb'⟩
      case measure => simp [intOf]
    | 2, _ =>
      have heq := same_disk B
      go_wp2
      go_ret2
      exact ⟨rfl, HB.out⟩

/-! ### A store that nobody made -/
def StoreAt (w : World) (B : Nat) : Prop := w.heap[B]? = some (.cells #[.pointer none, .pointer none] 52 (0, 0))
theorem StoreAt.c0 {w : World} {B : Nat} (h : StoreAt w B) : w.cell? ⟨B, 0, none⟩ = some (.pointer none) := by simp [World.cell?, show w.heap[B]? = _ from h]
def NoStore (w : World) (p : Option Addr) : Prop := p = none ∨ ∃ B, p = some ⟨B, 0, none⟩ ∧ StoreAt w B
theorem snone_no (w : World) (p : Option Addr) (h : NoStore w p) : Calls Try.prog 37 #[.pointer p] w fun e w' => e = .returned (.bool true) ∧ w = w' := by
  rcases h with rfl | ⟨B, rfl, h⟩
  · go_enter Try.func37, Try.ntmps37
    go_wp2
    go_ret
    exact ⟨rfl, rfl⟩
  · have c0 := h.c0
    go_enter Try.func37, Try.ntmps37
    go_wp2
    go_ret
    exact ⟨rfl, rfl⟩
theorem ssave_no (w : World) (p : Option Addr) (A : Option Addr) (l c : Nat) (i j : Int) (h : NoStore w p) : Calls Try.prog 19 #[.pointer p, .slice A l c, .int .i64 i, .int .i64 j] w fun e w' => e = .returned (.int .i64 7) ∧ w = w' := by
  have H := Lib.hid h
  clear h
  go_enter Try.func19, Try.ntmps19
  go_wp2_with (go_at_call 37; refine (snone_no _ _ H.out).mono ?_; rintro e w' ⟨rfl, rfl⟩)
  go_ret
  exact ⟨rfl, rfl⟩
theorem sload_no (w : World) (p : Option Addr) (h : NoStore w p) : Calls Try.prog 21 #[.pointer p] w fun e w' => e = .returned (.tuple #[.slice none 0 0, .bool false]) ∧ w = w' := by
  have H := Lib.hid h
  clear h
  go_enter Try.func21, Try.ntmps21
  go_wp2_with (go_at_call 37; refine (snone_no _ _ H.out).mono ?_; rintro e w' ⟨rfl, rfl⟩)
  go_ret2
  exact ⟨rfl, rfl⟩
theorem sgeneration_no (w : World) (p : Option Addr) (h : NoStore w p) : Calls Try.prog 22 #[.pointer p] w fun e w' => e = .returned (.int .u64 0) ∧ w = w' := by
  have H := Lib.hid h
  clear h
  go_enter Try.func22, Try.ntmps22
  go_wp2_with (go_at_call 37; refine (snone_no _ _ H.out).mono ?_; rintro e w' ⟨rfl, rfl⟩)
  go_ret
  exact ⟨rfl, rfl⟩
theorem sslot_no (w : World) (p : Option Addr) (i : Int) (h : NoStore w p) : Calls Try.prog 23 #[.pointer p, .int .i64 i] w fun e w' => e = .returned (.pointer none) ∧ w = w' := by
  have H := Lib.hid h
  clear h
  go_enter Try.func23, Try.ntmps23
  go_wp2_with (go_at_call 37; refine (snone_no _ _ H.out).mono ?_; rintro e w' ⟨rfl, rfl⟩)
  go_ret
  exact ⟨rfl, rfl⟩
set_option maxHeartbeats 4000000 in
set_option maxRecDepth 100000 in
theorem zero_walk (a0 : Option Addr) (len0 cap0 : Nat) (z0 : List Int) (w : World) {P Q : Prop} (_ : P) (_ : Q) :
    Calls Try.prog 7 #[.slice a0 len0 cap0] w fun e w' => e = .returned (.bool true) ∧ Below w.heap.size w w' := by
  obtain ⟨w1, hw1⟩ : ∃ w1, w1 = w.alloc (.cells #[.pointer none, .pointer none] 52) := ⟨_, rfl⟩
  have hT1 : StoreAt w1 w.heap.size := by rw [hw1]; exact World.alloc_heap_new w _
  have hb1 : Below w.heap.size w w1 := by rw [hw1]; exact (Below.refl _ _).alloc (Nat.le_refl _) _
  have hs1 : w1.heap.size = w.heap.size + 1 := by rw [hw1]; exact World.size_alloc w _
  have HT := Lib.hid hT1
  have HB := Lib.hid hb1
  have HS := Lib.hid hs1
  have HW := Lib.hid hw1
  clear hT1 hb1 hs1 hw1
  go_enter Try.func7, Try.ntmps7
  go_wp2_with (first
    | (go_at_call 17; rw [← HW.out]; refine (new_disk _ _ (by decide) (by decide)).mono ?_; rintro e w2 ⟨rfl, hd, hb⟩; have HD := Lib.hid hd; have HB2 := Lib.hid hb; have HT2 : Hid (StoreAt w2 w.heap.size) := Lib.hid ((hb.block _ (by rw [HS.out]; omega)).trans HT.out); clear hd hb HT; have HT := HT2; clear HT2)
    | (go_at_call_of 18 (Value.pointer none); refine (snapnew_nil _ _).mono ?_; rintro e w' ⟨rfl, rfl⟩)
    | (go_at_call_of 18 (Value.pointer (some ⟨w1.heap.size, 0, none⟩)); refine (snapnew_same _ _ _ _ HD.out (by decide) (by decide)).mono ?_; rintro e w3 ⟨rfl, hb⟩; have HB3 := Lib.hid hb; have HT3 : Hid (StoreAt w3 w.heap.size) := Lib.hid ((hb.block _ (by rw [HS.out]; omega)).trans HT.out); clear hb HT; have HT := HT3; clear HT3)
    | (go_at_call 19; refine (ssave_no _ _ _ _ _ _ _ (by first | exact .inl rfl | exact .inr ⟨_, rfl, HT.out⟩)).mono ?_; rintro e w' ⟨rfl, rfl⟩)
    | (go_at_call 21; refine (sload_no _ _ (by first | exact .inl rfl | exact .inr ⟨_, rfl, HT.out⟩)).mono ?_; rintro e w' ⟨rfl, rfl⟩)
    | (go_at_call 22; refine (sgeneration_no _ _ (by first | exact .inl rfl | exact .inr ⟨_, rfl, HT.out⟩)).mono ?_; rintro e w' ⟨rfl, rfl⟩)
    | (go_at_call 23; refine (sslot_no _ _ _ (by first | exact .inl rfl | exact .inr ⟨_, rfl, HT.out⟩)).mono ?_; rintro e w' ⟨rfl, rfl⟩))
  go_ret
  refine ⟨rfl, HB.out.trans ((HB2.out.mono ?_).trans (HB3.out.mono ?_))⟩
  · rw [HS.out]; omega
  · rw [HS.out]; omega

end Go.Proofs.Ytggbncnaijgdfaa.Man
