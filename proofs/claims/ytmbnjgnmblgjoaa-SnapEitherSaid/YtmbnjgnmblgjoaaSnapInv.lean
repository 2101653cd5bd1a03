/- A store and its saves (layer 30): the newest of two slots, kept through saves. -/
import Derived.Test.YtmbnjgnmblgjoaaSnapSave
import Derived.LaidEqlPtr
namespace Go.Proofs.Ytmbnjgnmblgjoaa.Man
open Go.RowKit Go.Proofs.YtmbnjgnmblgjoaaW.PrintWords Go.Proofs.YtmbnjgnmblgjoaaW.PrintLast Go.Proofs.YtmbnjgnmblgjoaaW.PrintMore
set_option linter.unusedVariables false
set_option linter.unusedSimpArgs false
set_option maxRecDepth 100000

theorem idx0 (c0 c1 : Value) (W : World) : (Instr.index 161 (.agg #[c0, c1]) (.int .i64 0)).run Try.prog W = .ok c0 W := by kernel_rfl
theorem idx1 (c0 c1 : Value) (W : World) : (Instr.index 161 (.agg #[c0, c1]) (.int .i64 1)).run Try.prog W = .ok c1 W := by kernel_rfl
theorem index_ev {ops : Array Oper} {rest : List Oper} {o : Oper} {a : Act} {Q : Exit → Act → World → Prop} {w : World} (hgd : o.guard = none) (x i : Operand) (ho : o.op = .index 161 x i) {cs : Array Value} {k : Int} {v : Value}
    (hx : a.eval x = .agg cs) (hi : a.eval i = .int .i64 k) (hr : (Instr.index 161 (.agg cs) (.int .i64 k)).run Try.prog w = .ok v w) (h : wpList Try.prog ops Q rest (a.put o.dst v) w) : wpList Try.prog ops Q (o :: rest) a w := by
  refine Kd.event_run hgd ?_ h
  unfold execOp
  rw [ho]
  simp [hx, hi, hr]
theorem held_frame (g : Nat) (b : List Int) (hg : g < 1002) (hB : areBytesN b = true) (hl : b.length ≤ 4000) : heldF (frameF (vb g ++ b)) = (b, (g : Int), true) := by
  have hv : (vb g).length ≤ 2 := vb_length_le 1 g (by omega)
  have h := openF_frame (vb g ++ b) [] (areBytesN_append (vb_bytes _) hB) (by rw [List.length_append]; omega)
  rw [List.append_nil] at h
  unfold heldF
  rw [h]
  simp only
  rw [if_neg (by simp), if_neg (by simp), getF_vb g (by omega) b]
  simp
theorem held_short (x : List Int) (hl : x.length ≤ 65536) (j : Nat) (hj : j < (frameF x).length) : heldF ((frameF x).take j) = ([], 0, false) := by
  unfold heldF
  rw [openF_short x hl j hj, if_pos (by simp)]
theorem held_nil : heldF [] = ([], 0, false) := by
  unfold heldF
  rw [openF_empty, if_pos (by simp)]

/-- The newest of two slots behind i saves. -/
def Inv (i : Nat) (old : List Int) (hx hy : Held) : Prop :=
  (i = 0 ∧ old = [] ∧ hx = ([], 0, false) ∧ hy = ([], 0, false)) ∨
  (i % 2 = 1 ∧ hx = (old, (i : Int), true) ∧ (hy.2.2 = false ∨ hy.2.1 < (i : Int))) ∨
  (0 < i ∧ i % 2 = 0 ∧ hy = (old, (i : Int), true) ∧ (hx.2.2 = false ∨ hx.2.1 < (i : Int)))
theorem Inv.new {i : Nat} {old : List Int} {hx hy : Held} (h : Inv i old hx hy) : newF hx hy = ((old, (i : Int), decide (0 < i)), if i % 2 = 0 then 0 else 1) := by
  rcases h with ⟨rfl, rfl, rfl, rfl⟩ | ⟨h1, rfl, h2⟩ | ⟨h0, h1, rfl, h2⟩
  · rfl
  · unfold newF firstF
    have : (true && (!hy.2.2 || decide (hy.2.1 ≤ (i : Int)))) = true := by
      rcases h2 with h2 | h2
      · rw [h2]; rfl
      · rw [show decide (hy.2.1 ≤ (i : Int)) = true by simp; omega]; simp
    simp only at this ⊢
    rw [if_pos this, if_neg (by omega), show decide (0 < i) = true by simp; omega]
  · unfold newF firstF
    have : (hx.2.2 && (!true || decide ((i : Int) ≤ hx.2.1))) = false := by
      rcases h2 with h2 | h2
      · rw [h2]; rfl
      · rw [show decide ((i : Int) ≤ hx.2.1) = false by simp; omega]; simp
    simp only at this ⊢
    rw [this, if_neg (by simp), if_pos trivial, if_pos h1, show decide (0 < i) = true by simp; omega]
theorem Inv.sv {i : Nat} {old b : List Int} {hx hy : Held} (h : Inv i old hx hy) : (i % 2 = 0 → Inv (i + 1) b (b, ((i + 1 : Nat) : Int), true) hy) ∧ (i % 2 = 1 → Inv (i + 1) b hx (b, ((i + 1 : Nat) : Int), true)) := by
  constructor
  · intro e
    refine .inr (.inl ⟨by omega, rfl, ?_⟩)
    rcases h with ⟨rfl, rfl, rfl, rfl⟩ | ⟨h1, _, _⟩ | ⟨_, _, rfl, _⟩
    · exact .inl rfl
    · omega
    · exact .inr (by show (i : Int) < ((i + 1 : Nat) : Int); omega)
  · intro e
    refine .inr (.inr ⟨by omega, by omega, rfl, ?_⟩)
    rcases h with ⟨rfl, rfl, rfl, rfl⟩ | ⟨_, rfl, _⟩ | ⟨_, h1, _, _⟩
    · omega
    · exact .inr (by show (i : Int) < ((i + 1 : Nat) : Int); omega)
    · omega
theorem Inv.lost {i : Nat} {old : List Int} {hx hy : Held} (h : Inv i old hx hy) : (i % 2 = 0 → Inv i old ([], 0, false) hy) ∧ (i % 2 = 1 → Inv i old hx ([], 0, false)) := by
  constructor
  · intro e
    rcases h with ⟨rfl, rfl, rfl, rfl⟩ | ⟨h1, _, _⟩ | ⟨h0, _, rfl, _⟩
    · exact .inl ⟨rfl, rfl, rfl, rfl⟩
    · omega
    · exact .inr (.inr ⟨h0, e, rfl, .inl rfl⟩)
  · intro e
    rcases h with ⟨rfl, rfl, rfl, rfl⟩ | ⟨_, rfl, _⟩ | ⟨_, h1, _, _⟩
    · omega
    · exact .inr (.inl ⟨e, rfl, .inl rfl⟩)
    · omega

/-- What a save that stops leaves in its slot. -/
theorem stop_held (zs b : List Int) (g : Nat) (hg : g < 1000) (hz : areBytesN zs = true) (hB : areBytesN b = true) (hl : b.length ≤ 4000) (st : Nat) (keep : Int) (hk : 0 ≤ keep) :
    areBytesN (crL (stepL zs (frameF (vb (g + 1) ++ b)) st) (stepS (zs.length : Int) (frameF (vb (g + 1) ++ b)) st) keep) = true ∧
    (heldF (crL (stepL zs (frameF (vb (g + 1) ++ b)) st) (stepS (zs.length : Int) (frameF (vb (g + 1) ++ b)) st) keep) = heldF zs ∨
     heldF (crL (stepL zs (frameF (vb (g + 1) ++ b)) st) (stepS (zs.length : Int) (frameF (vb (g + 1) ++ b)) st) keep) = ([], 0, false) ∨
     heldF (crL (stepL zs (frameF (vb (g + 1) ++ b)) st) (stepS (zs.length : Int) (frameF (vb (g + 1) ++ b)) st) keep) = (b, ((g + 1 : Nat) : Int), true)) := by
  have hv : (vb (g + 1)).length ≤ 2 := vb_length_le 1 _ (by omega)
  have hfb := frameF_bytes (vb (g + 1) ++ b) (areBytesN_append (vb_bytes _) hB)
  have hf := held_frame (g + 1) b (by omega) hB hl
  have hsh := held_short (vb (g + 1) ++ b) (by rw [List.length_append]; omega)
  generalize frameF (vb (g + 1) ++ b) = f at hfb hf hsh
  have key : ∀ (s : Int), areBytesN (crL f s keep) = true ∧ (heldF (crL f s keep) = ([], 0, false) ∨ heldF (crL f s keep) = (b, ((g + 1 : Nat) : Int), true)) := fun s => by
    unfold crL
    rw [if_neg (by omega)]
    refine ⟨areBytesN_take hfb _, ?_⟩
    generalize (s + min keep ((f.length : Int) - s)).toNat = j
    by_cases hj : j < f.length
    · exact .inl (hsh j hj)
    · rw [List.take_of_length_le (by omega)]
      exact .inr hf
  match st with
  | 0 =>
    have e : crL zs (zs.length : Int) keep = zs := by
      unfold crL
      rw [if_neg (by omega), List.take_of_length_le (by omega)]
    show areBytesN (crL zs (zs.length : Int) keep) = true ∧ (heldF (crL zs (zs.length : Int) keep) = _ ∨ heldF (crL zs (zs.length : Int) keep) = _ ∨ heldF (crL zs (zs.length : Int) keep) = _)
    rw [e]
    exact ⟨hz, .inl rfl⟩
  | 1 =>
    have e : crL [] 0 keep = [] := by
      unfold crL
      rw [if_neg (by omega), List.take_nil]
    show areBytesN (crL [] 0 keep) = true ∧ (heldF (crL [] 0 keep) = _ ∨ heldF (crL [] 0 keep) = _ ∨ heldF (crL [] 0 keep) = _)
    rw [e]
    exact ⟨rfl, .inr (.inl held_nil)⟩
  | 2 => exact ⟨(key 0).1, .inr (key 0).2⟩
  | (n + 3) => exact ⟨(key (f.length : Int)).1, .inr (key (f.length : Int)).2⟩

/-- A store of two disks. -/
structure SN (w : World) (base S BX BY : Nat) (v u : Value) (X Y : List Int) (s s' m : Int) : Prop where
  st : StoreS w S BX BY
  x : DiskS w base BX v X s m
  y : DiskS w base BY u Y s' m
  ne : BX ≠ BY
  ap : Apart v u
  bx : areBytesN X = true
  by_ : areBytesN Y = true
theorem StoreS.step {w w1 : World} {S BX BY base B : Nat} {v v' : Value} {xs : List Int} {s m : Int} (k : StoreS w S BX BY) (hd : DiskS w base B v xs s m) (st : DStep w w1 B v v') : StoreS w1 S BX BY := by
  refine k.move (st.block S k.lt (fun e => ?_) (fun e => ?_))
  · have h1 : w.heap[S]? = _ := k
    have h2 : w.heap[B]? = _ := hd.cells
    rw [e, h2] at h1
    cases h1
  · obtain ⟨_, _, cur, hc⟩ := hd.row.block e.symm
    have h1 : w.heap[S]? = _ := k
    rw [hc] at h1
    cases h1
theorem SN.below {w w1 : World} {base S BX BY n : Nat} {v u : Value} {X Y : List Int} {s s' m : Int} (h : SN w base S BX BY v u X Y s s' m) (hb : Below n w w1) (hn : w.heap.size ≤ n) : SN w1 base S BX BY v u X Y s s' m :=
  { h with st := h.st.below hb (by have := h.st.lt; omega), x := h.x.below hb hn, y := h.y.below hb hn }
theorem SN.actX {w w1 : World} {base S BX BY : Nat} {v u v' : Value} {X Y X' : List Int} {s s' m t : Int} (h : SN w base S BX BY v u X Y s s' m) (hd : DiskS w1 base BX v' X' t m) (st : DStep w w1 BX v v') (hb : areBytesN X' = true) : SN w1 base S BX BY v' u X' Y t s' m :=
  ⟨h.st.step h.x st, hd, h.y.other h.x st h.ne.symm (fun b hb => h.ap.symm b hb), h.ne, st.apart h.ap h.y.row, hb, h.by_⟩
theorem SN.actY {w w1 : World} {base S BX BY : Nat} {v u u' : Value} {X Y Y' : List Int} {s s' m t : Int} (h : SN w base S BX BY v u X Y s s' m) (hd : DiskS w1 base BY u' Y' t m) (st : DStep w w1 BY u u') (hb : areBytesN Y' = true) : SN w1 base S BX BY v u' X Y' s t m :=
  ⟨h.st.step h.y st, h.x.other h.y st h.ne (fun b hb => h.ap b hb), hd, h.ne, (st.apart h.ap.symm h.x.row).symm, h.bx, hb⟩

theorem newestN {w : World} {base S BX BY : Nat} {v u : Value} {X Y : List Int} {s s' m : Int} (h : SN w base S BX BY v u X Y s s' m) {i : Nat} {old : List Int} (I : Inv i old (heldF X) (heldF Y)) :
    Calls Try.prog 114 #[.pointer (some ⟨S, 0, none⟩)] w (NewPost w (old, (i : Int), decide (0 < i)) (if i % 2 = 0 then 0 else 1)) := by
  have := newest_is h.st h.x h.y h.bx h.by_
  rw [I.new] at this
  exact this
theorem saveN {w : World} {base S BX BY : Nat} {v u : Value} {X Y : List Int} {m : Int} (h : SN w base S BX BY v u X Y (X.length : Int) (Y.length : Int) m) {i : Nat} {old : List Int} (I : Inv i old (heldF X) (heldF Y)) (hi : i < 1000)
    (A0 : Option Addr) (c0 : Nat) (b : List Int) (hb : Kd.C (Kd.int .u8) w A0 b.length b) (hB : areBytesN b = true) (hl : b.length ≤ 4000) (hm : (b.length : Int) + 8 ≤ m) (st : Nat) (keep : Int) (hs1 : st < 1000) (hk0 : 0 ≤ keep) (hk1 : keep ≤ 9223372036854775807) :
    Calls Try.prog 55 #[.pointer (some ⟨S, 0, none⟩), .slice A0 b.length c0, .int .i64 (st : Int), .int .i64 keep] w fun e w' => e = .returned (.int .i64 0) ∧ Below base w w' ∧ ∃ v' u' X' Y' t t', SN w' base S BX BY v' u' X' Y' t t' m ∧
      (st < 3 → Inv i old (heldF X') (heldF Y') ∨ Inv (i + 1) b (heldF X') (heldF Y')) ∧ (3 ≤ st → t = (X'.length : Int) ∧ t' = (Y'.length : Int) ∧ Inv (i + 1) b (heldF X') (heldF Y')) := by
  have hn := newestN h I
  have hfb := frameF_bytes (vb (i + 1) ++ b) (areBytesN_append (vb_bytes _) hB)
  have hf := held_frame (i + 1) b (by omega) hB hl
  have hmm : ((frameF (vb (i + 1) ++ b)).length : Int) ≤ m := by
    have h1 : (vb (i + 1)).length ≤ 2 := vb_length_le 1 _ (by omega)
    have h2 : (vb (vb (i + 1) ++ b).length).length ≤ 2 := vb_length_le 1 _ (by rw [List.length_append]; omega)
    have h3 : (vb (i + 1) ++ b).length = (vb (i + 1)).length + b.length := List.length_append
    rw [frameF_length]
    omega
  by_cases e : i % 2 = 0
  · rw [if_pos e] at hn
    refine (save_is h.st _ 0 hn h.x (.inl ⟨rfl, rfl⟩) A0 c0 b hb hB hl i rfl hi (st : Int) keep (by omega) (by omega) hmm hk0 hk1).mono ?_
    rintro e1 w' ⟨rfl, v', hs, hd⟩
    rw [Int.toNat_natCast] at hd
    refine ⟨rfl, hs.below h.x, ?_⟩
    rcases hd with ⟨h3, hd⟩ | ⟨h3, hd⟩
    · obtain ⟨q1, q2⟩ := stop_held X b i hi h.bx hB hl st keep hk0
      refine ⟨_, _, _, _, _, _, h.actX hd hs q1, fun _ => ?_, fun h4 => by omega⟩
      rcases q2 with q | q | q
      · rw [q]; exact .inl I
      · rw [q]; exact .inl (I.lost.1 e)
      · rw [q]; exact .inr (I.sv.1 e)
    · refine ⟨_, _, _, _, _, _, h.actX hd hs hfb, fun h4 => by omega, fun _ => ⟨rfl, rfl, ?_⟩⟩
      rw [hf]; exact I.sv.1 e
  · rw [if_neg e] at hn
    refine (save_is h.st _ 1 hn h.y (.inr ⟨rfl, rfl⟩) A0 c0 b hb hB hl i rfl hi (st : Int) keep (by omega) (by omega) hmm hk0 hk1).mono ?_
    rintro e1 w' ⟨rfl, v', hs, hd⟩
    rw [Int.toNat_natCast] at hd
    refine ⟨rfl, hs.below h.y, ?_⟩
    rcases hd with ⟨h3, hd⟩ | ⟨h3, hd⟩
    · obtain ⟨q1, q2⟩ := stop_held Y b i hi h.by_ hB hl st keep hk0
      refine ⟨_, _, _, _, _, _, h.actY hd hs q1, fun _ => ?_, fun h4 => by omega⟩
      rcases q2 with q | q | q
      · rw [q]; exact .inl I
      · rw [q]; exact .inl (I.lost.2 (by omega))
      · rw [q]; exact .inr (I.sv.2 (by omega))
    · refine ⟨_, _, _, _, _, _, h.actY hd hs hfb, fun h4 => by omega, fun _ => ⟨rfl, rfl, ?_⟩⟩
      rw [hf]; exact I.sv.2 (by omega)

theorem app_nil {w : World} {base B : Nat} {v : Value} {xs : List Int} {s m : Int} (h : DiskS w base B v xs s m) : Calls Try.prog 29 #[.pointer (some ⟨B, 0, none⟩), .slice none 0 0] w fun e w' => e = .returned (.int .i64 0) ∧ ∃ v', DiskS w' base B v' xs s m ∧ DStep w w' B v v' := by
  have := append_is h none 0 (C_nil w .u8) (by have := h.len; simp only [List.length_nil]; omega)
  rw [List.append_nil] at this
  exact this
theorem disks_ne {w : World} {base BX BY : Nat} {v u : Value} {xs ys : List Int} {s s' m m' : Int} (hx : DiskS w base BX v xs s m) (hy : DiskS w base BY u ys s' m') (ne : BX ≠ BY) :
    (binOp .eql 43 (.pointer (some ⟨BX, 0, none⟩)) (.pointer (some ⟨BY, 0, none⟩))).run Try.prog w = .ok (.bool false) w := by
  obtain ⟨j, hj, hsz⟩ : ∃ j, Try.prog.info? 148 = some j ∧ j.size = 4 := by
    have h : (Try.prog.info? 148).map (fun i => i.size) = some 4 := by kernel_rfl
    match hq : Try.prog.info? 148, h with
    | some j, h => exact ⟨j, rfl, by simpa [hq] using h⟩
  exact run_eql_ptr_other w (te := 148) (by kernel_rfl) hj (by omega) (fun e => ne (by cases e; rfl)) hx.cells hy.cells
set_option maxHeartbeats 4000000 in
/-- Two empty disks make a store. -/
theorem snapNew_is {w : World} {base BX BY : Nat} {m : Int} (hx : DiskS w base BX (.slice none 0 0) [] 0 m) (hy : DiskS w base BY (.slice none 0 0) [] 0 m) (ne : BX ≠ BY) :
    Calls Try.prog 54 #[.pointer (some ⟨BX, 0, none⟩), .pointer (some ⟨BY, 0, none⟩)] w fun e w' => ∃ S, e = .returned (.tuple #[.pointer (some ⟨S, 0, none⟩), .int .i64 0]) ∧ StoreS w' S BX BY ∧ (∃ v u, DiskS w' base BX v [] 0 m ∧ DiskS w' base BY u [] 0 m ∧ Apart v u) ∧ Below base w w' := by
  have hbase : base ≤ w.heap.size := by have := hx.at_; have := hx.cells.lt; omega
  have HXY : Hid (∃ v u, DiskS w base BX v [] 0 m ∧ DiskS w base BY u [] 0 m ∧ Apart v u) := Lib.hid ⟨_, _, hx, hy, Apart.nil _⟩
  clear hx hy
  go_enter Try.func54, Try.ntmps54
  go_wp2_with (fail)
  go_loopg [12] 3 (fun gg s12 wr => ∃ k : Nat, k ≤ 2 ∧ s12 = .int .i64 k ∧ gg = 3 - k ∧ Hid (∃ v u, DiskS wr base BX v [] 0 m ∧ DiskS wr base BY u [] 0 m ∧ Apart v u) ∧ Hid (Below base w wr))
  case atStart => exact ⟨0, by omega, rfl, rfl, HXY, Lib.hid (Below.refl _ _)⟩
  case round =>
    clear HXY
    obtain ⟨k, hk, rfl, hgg, HP, HB⟩ := hrel
    obtain ⟨v, u, HD⟩ : ∃ v u, Hid (DiskS wr base BX v [] 0 m ∧ DiskS wr base BY u [] 0 m ∧ Apart v u) := by
      obtain ⟨v, u, h⟩ := HP.out
      exact ⟨v, u, Lib.hid h⟩
    clear HP
    match k, hk with
    | 0, _ =>
      go_wp2_with (first | (refine index_ev rfl _ _ rfl rfl rfl (idx0 _ _ _) ?_) | (refine index_ev rfl _ _ rfl rfl rfl (idx1 _ _ _) ?_) | (go_at_call 29; refine (app_nil HD.out.1).mono ?_; rintro e w' ⟨rfl, v', hd, hs⟩; have HD' := Lib.hid hd; have HS' := Lib.hid hs; clear hd hs))
      go_roundg 2
      case measure => omega
      case rel => exact ⟨1, by omega, rfl, rfl, Lib.hid ⟨v', u, HD'.out, HD.out.2.1.other HD.out.1 HS'.out ne.symm (fun b hb => HD.out.2.2.symm b hb), HS'.out.apart HD.out.2.2 HD.out.2.1.row⟩, Lib.hid (HB.out.trans (HS'.out.below HD.out.1))⟩
    | 1, _ =>
      go_wp2_with (first | (refine index_ev rfl _ _ rfl rfl rfl (idx0 _ _ _) ?_) | (refine index_ev rfl _ _ rfl rfl rfl (idx1 _ _ _) ?_) | (go_at_call 29; refine (app_nil HD.out.2.1).mono ?_; rintro e w' ⟨rfl, u', hd, hs⟩; have HD' := Lib.hid hd; have HS' := Lib.hid hs; clear hd hs))
      go_roundg 1
      case measure => omega
      case rel => exact ⟨2, by omega, rfl, rfl, Lib.hid ⟨v, u', HD.out.1.other HD.out.2.1 HS'.out ne (fun b hb => HD.out.2.2 b hb), HD'.out, (HS'.out.apart HD.out.2.2.symm HD.out.1.row).symm⟩, Lib.hid (HB.out.trans (HS'.out.below HD.out.2.1))⟩
    | 2, _ =>
      have heq := disks_ne HD.out.1 HD.out.2.1 ne
      go_wp2_with (fail)
      have hbe : Below wr.heap.size wr (wr.alloc (.cells #[.pointer (some ⟨BX, 0, none⟩), .pointer (some ⟨BY, 0, none⟩)] 163)) := (Below.refl _ _).alloc (Nat.le_refl _) _
      have h1 := HD.out.1.below hbe (Nat.le_refl _)
      have h2 := HD.out.2.1.below hbe (Nat.le_refl _)
      go_ret2
      first
        | exact ⟨wr.heap.size, rfl, World.alloc_heap_new wr _, ⟨v, u, h1, h2, HD.out.2.2⟩, HB.out.alloc (by have := HB.out.size; omega) _⟩
        | exact ⟨World.alloc_heap_new wr _, ⟨v, u, h1, h2, HD.out.2.2⟩, HB.out.alloc (by have := HB.out.size; omega) _⟩
end Go.Proofs.Ytmbnjgnmblgjoaa.Man
