/- Frames (layer 16): the sum of bytes, Wrap, Open of the given program: what each comes to. -/
import Derived.Deep.DeepMust
import Derived.Test.YtmbnjgnmblgjoaaGet
import Derived.Test.YtmbnjgnmblgjoaaSumMath
import Derived.Test.YtmbnjgnmblgjoaaQuadStr
namespace Go.Proofs.Ytmbnjgnmblgjoaa.Man
open Go.RowKit Go.Proofs.YtmbnjgnmblgjoaaW.PrintWords Go.Proofs.YtmbnjgnmblgjoaaW.PrintLast Go.Proofs.YtmbnjgnmblgjoaaW.PrintMore
set_option linter.unusedVariables false
set_option linter.unusedSimpArgs false
set_option maxRecDepth 100000

theorem info_u8 : (Try.prog.info? 5).map (fun i => (i.zero, i.size, i.bytes)) = some (some (.int .u8 0), 1, 1) := by kernel_rfl

/-- A row of bytes of the call's own. -/
abbrev BR (w : World) (base : Nat) (v : Value) (xs : List Int) : Prop := Kd.R (Kd.int .u8) 5 w base (fun _ => True) v xs
theorem BR.len {w : World} {base : Nat} {v : Value} {xs : List Int} (h : BR w base v xs) : ∃ A c, v = .slice A xs.length c ∧ xs.length ≤ c ∧ Kd.C (Kd.int .u8) w A xs.length xs := Kd.R_reads h
theorem BR.base {w : World} {base : Nat} {v : Value} {xs : List Int} (h : BR w base v xs) {k : Nat} (hk : v.ownBlock = some k) : base ≤ k := own_base (Kd.own_of_R h) k hk
theorem BR.append_ev {ops : Array Oper} {rest : List Oper} {o : Oper} {a : Act} {Q : Exit → Act → World → Prop} {w : World} {base : Nat} {v : Value} {xs ys : List Int} {A : Option Addr} {m c : Nat}
    (h : BR w base v xs) (HR : Kd.C (Kd.int .u8) w A m ys) (hgd : o.guard = none) (s x : Operand) (ho : o.op = .call { callee := .builtin .append, args := #[s, x], argTypes := #[27, 27] })
    (hs : a.eval s = v) (hx : a.eval x = .slice A m c) (hbase : base ≤ w.heap.size) (hl : xs.length + m ≤ 140737488355328)
    (k : ∀ v1 w1, BR w1 base v1 (xs ++ ys) → Below base w w1 → (v1.ownBlock = v.ownBlock ∨ ∃ b, v1.ownBlock = some b ∧ w.heap.size ≤ b) → wpList Try.prog ops Q rest (a.put o.dst v1) w1) : wpList Try.prog ops Q (o :: rest) a w :=
  Kd.R_append_rows (Kd.int .u8) (Rr := (Kd.int .u8).K w) (w0 := w) base hgd s x 27 5 (.int .u8 0) 1 ho Try.underlying27 info_u8 rfl (by decide) (by omega) v xs ys A m c (fun _ => True) (fun _ => False) hs hx h HR (fun _ _ h => h) (fun _ h => h.elim) (fun _ _ => trivial) (Below.refl _ _) hbase (by omega)
    (fun v1 w1 h1 h2 h3 h4 => k v1 w1 h1 h2 h4)
theorem BR.push_ev {ops : Array Oper} {rest : List Oper} {o : Oper} {a : Act} {Q : Exit → Act → World → Prop} {w : World} {base : Nat} {v : Value} {xs : List Int} {y : Int}
    (h : BR w base v xs) (hgd : o.guard = none) (s x : Operand) (ho : o.op = .call { callee := .builtin .append, args := #[s, x], argTypes := #[27, 27] })
    (hs : a.eval s = v) (hx : a.eval x = .slice (some ⟨w.heap.size, 0, none⟩) 1 1) (hbase : base ≤ w.heap.size) (hl : xs.length + 1 ≤ 140737488355328)
    (k : ∀ v1 w1, BR w1 base v1 (xs ++ [y]) → Below base w w1 → (v1.ownBlock = v.ownBlock ∨ ∃ b, v1.ownBlock = some b ∧ w.heap.size ≤ b) → wpList Try.prog ops Q rest (a.put o.dst v1) w1) : wpList Try.prog ops Q (o :: rest) a (w.alloc (.cells #[.int .u8 y] 5)) :=
  Kd.R_append (Kd.int .u8) (w0 := w) base hgd s x 27 5 (.int .u8 0) 1 ho Try.underlying27 info_u8 rfl (by decide) (by omega) v xs y [.int .u8 y] (fun _ => True) (fun _ => False) hs hx rfl (fun _ h => h.elim) (fun _ _ => trivial) h (Below.refl _ _) hbase (by omega)
    (fun v1 w1 h1 h2 h3 h4 => k v1 w1 h1 h2 h4)

/-! ### The sum -/
def sumF (l : List Int) : Int := moreF 1 l
theorem sumF_range (l : List Int) : 0 ≤ sumF l ∧ sumF l < 4294967296 := moreF_range 1 l
theorem of_any (A : Option Addr) (c : Nat) (l : List Int) (w : World) (hr : Kd.C (Kd.int .u8) w A l.length l) (hB : areBytesN l = true) :
    Calls Try.prog 90 #[.slice A l.length c] w fun e w' => e = .returned (.int .u32 (sumF l)) ∧ Below w.heap.size w w' := by
  have HR := Lib.hid hr
  have HB := Lib.hid hB
  clear hr hB
  go_enter Try.func90, Try.ntmps90
  go_wp2_with (go_at_call 142; refine (more_any 1 A c l w HR.out HB.out (by decide) (by decide)).mono ?_; rintro e w1 ⟨rfl, hb⟩; have HW := Lib.hid hb; clear hb)
  go_ret
  exact ⟨rfl, HW.out⟩

/-- A sum's four bytes. -/
def be (s : Int) : List Int := [s / 16777216, s / 65536 % 256, s / 256 % 256, s % 256]
/-- A frame. -/
def frameF (b : List Int) : List Int := vb b.length ++ b ++ be (sumF b)
def wrapF (b : List Int) : List Int × Int := if 65536 < b.length then ([], 2) else (frameF b, 0)

theorem u64_one (n : Nat) (h : n < 18446744073709551616) : areU64 [(n : Int)] = true := by
  unfold areU64; simp; omega
theorem vbs_one (n : Nat) : vbs [(n : Int)] = vb n := by simp [vbs]
/-- A number that a variadic call has boxed. -/
theorem C_box (w : World) (k : IntKind) (n : Int) (t : TypeId) : Kd.C (Kd.int k) (w.alloc (.cells #[.int k n] t)) (some ⟨w.heap.size, 0, none⟩) ([n] : List Int).length [n] :=
  Kd.C_of_reads (d := (0 : Int)) (h1 := fun _ => rfl) ⟨rfl, by simp, fun _ => ⟨_, rfl, fun j hj => by
    obtain rfl : j = 0 := by simp at hj; exact hj
    rw [Addr.add_lit, cell_of_row _ w.heap.size _ _ _ (0, 0) (World.alloc_heap_new w _)]
    rfl⟩⟩
theorem C_nil (w : World) (k : IntKind) : Kd.C (Kd.int k) w none ([] : List Int).length [] := Kd.C_of_reads (d := (0 : Int)) (h1 := fun _ => rfl) ⟨rfl, by simp, fun h => absurd h (by simp)⟩

set_option maxHeartbeats 4000000 in
theorem wrap_any (A0 : Option Addr) (c0 : Nat) (b : List Int) (w : World) (hr : Kd.C (Kd.int .u8) w A0 b.length b) (hB : areBytesN b = true) :
    Calls Try.prog 21 #[.slice A0 b.length c0] w fun e w' => ∃ v, e = .returned (.tuple #[v, .int .i64 (wrapF b).2]) ∧ BR w' w.heap.size v (wrapF b).1 ∧ Below w.heap.size w w' := by
  have hl63 : b.length ≤ 9223372036854775807 := hr.2.1
  have HR := Lib.hid hr
  have HB := Lib.hid hB
  clear hr hB
  unfold wrapF
  by_cases hbig : 65536 < b.length
  · rw [if_pos hbig]
    go_enter Try.func21, Try.ntmps21
    go_wp2
    go_ret2
    exact ⟨_, rfl, Kd.R_nil _ _ _ _ _, Below.refl _ _⟩
  rw [if_neg hbig]
  have h10 : (vb b.length).length ≤ 10 := vb_le_ten (by omega)
  have HN := Lib.hid (C_box w .u64 (b.length : Int) 90)
  have hbe : Below w.heap.size w (w.alloc (.cells #[.int .u64 (b.length : Int)] 90)) := (Below.refl _ _).alloc (Nat.le_refl _) _
  have HE := Lib.hid hbe
  have HNil := Lib.hid (C_nil (w.alloc (.cells #[.int .u64 (b.length : Int)] 90)) .u8)
  have hU : IntKind.u64.wrap (b.length : Int) = (b.length : Int) := by rw [IntKind.wrap_u64]; omega
  clear hbe
  go_enter Try.func21, Try.ntmps21
  go_wp2_with (first
    | (go_at_call 89; refine (put_any none (some ⟨w.heap.size, 0, none⟩) 0 1 [] [(b.length : Int)] _ HNil.out HN.out (u64_one _ (by omega)) (by rw [vbs_one, List.nil_append]; omega)).mono ?_; rintro e w1 ⟨v1, rfl, hr1, hb1⟩; rw [vbs_one, List.nil_append] at hr1; obtain ⟨A1, k1, rfl, hk1, _⟩ := BR.len hr1; have HR1 := Lib.hid hr1; have HB1 := Lib.hid (HE.out.trans (hb1.mono HE.out.size)); have hz1 : w.heap.size ≤ w1.heap.size := HB1.out.size; clear hr1 hb1 hk1)
    | (at_builtin; refine BR.append_ev (w := w1) (Kd.R_lower HR1.out HE.out.size) (Kd.C_below HR.out HB1.out) rfl (.tmp 14) (.tmp 15) rfl rfl rfl HB1.out.size (by omega) ?_; intro v2 w2 hr2 hb2 hat; obtain ⟨ys, hys⟩ : ∃ ys, vb b.length ++ b = ys := ⟨_, rfl⟩; rw [hys] at hr2; have hyl : ys.length ≤ 65546 := (by rw [← hys, List.length_append]; omega); have HYS := Lib.hid hys; clear hys; obtain ⟨A2, k2, rfl, hk2, _⟩ := BR.len hr2; have HR2 := Lib.hid hr2; have HB2 := Lib.hid (HB1.out.trans hb2); clear hr2 hb2 hat hk2)
    | (go_at_call 90; refine (of_any A0 c0 b _ (Kd.C_below HR.out HB2.out) HB.out).mono ?_; rintro e w3 ⟨rfl, hb⟩; have HR3 := Lib.hid (Kd.R_below HR2.out hb); have HB3 := Lib.hid (HB2.out.trans (hb.mono HB2.out.size)); clear hb))
  obtain ⟨hs0, hs1⟩ := sumF_range b
  obtain ⟨s, hs⟩ : ∃ s, sumF b = s := ⟨_, rfl⟩
  rw [hs] at hs0 hs1
  rw [hs]
  have HS := Lib.hid hs
  clear hs
  go_loopg [4, 6] 5 (fun g s4 s6 wr => ∃ i : Nat, g = 5 - i ∧ ((i = 0 ∧ s6 = .int .i64 24) ∨ (i = 1 ∧ s6 = .int .i64 16) ∨ (i = 2 ∧ s6 = .int .i64 8) ∨ (i = 3 ∧ s6 = .int .i64 0) ∨ (i = 4 ∧ s6 = .int .i64 (-8))) ∧ Hid (BR wr w.heap.size s4 (ys ++ (be s).take i)) ∧ Hid (Below w.heap.size w wr))
  case atStart => exact ⟨0, rfl, .inl ⟨rfl, rfl⟩, Lib.hid (by simpa using HR3.out), HB3⟩
  case round =>
    clear HR3 HB3
    obtain ⟨i, hg, hi, HR4, HB4⟩ := hrel
    rcases hi with ⟨rfl, rfl⟩ | ⟨rfl, rfl⟩ | ⟨rfl, rfl⟩ | ⟨rfl, rfl⟩ | ⟨rfl, rfl⟩
    · go_wp2_with (at_builtin; go_must (refine BR.push_ev (w := wr) (y := s / 16777216) HR4.out rfl (.tmp 23) (.tmp 28) rfl rfl rfl HB4.out.size (by rw [List.length_append, List.length_take]; omega) ?_; intro v5 w5 hr5 hb5 hat; have HR5 := Lib.hid hr5; have HB5 := Lib.hid (HB4.out.trans hb5); clear hr5 hb5 hat))
      go_roundg 4
      case measure => omega
      case rel => exact ⟨1, by omega, by simp, Lib.hid (by have := HR5.out; rw [List.append_assoc] at this; exact this), HB5⟩
    · go_wp2_with (at_builtin; go_must (refine BR.push_ev (w := wr) (y := s / 65536 % 256) HR4.out rfl (.tmp 23) (.tmp 28) rfl rfl rfl HB4.out.size (by rw [List.length_append, List.length_take]; omega) ?_; intro v5 w5 hr5 hb5 hat; have HR5 := Lib.hid hr5; have HB5 := Lib.hid (HB4.out.trans hb5); clear hr5 hb5 hat))
      go_roundg 3
      case measure => omega
      case rel => exact ⟨2, by omega, by simp, Lib.hid (by have := HR5.out; rw [List.append_assoc] at this; exact this), HB5⟩
    · go_wp2_with (at_builtin; go_must (refine BR.push_ev (w := wr) (y := s / 256 % 256) HR4.out rfl (.tmp 23) (.tmp 28) rfl rfl rfl HB4.out.size (by rw [List.length_append, List.length_take]; omega) ?_; intro v5 w5 hr5 hb5 hat; have HR5 := Lib.hid hr5; have HB5 := Lib.hid (HB4.out.trans hb5); clear hr5 hb5 hat))
      go_roundg 2
      case measure => omega
      case rel => exact ⟨3, by omega, by simp, Lib.hid (by have := HR5.out; rw [List.append_assoc] at this; exact this), HB5⟩
    · go_wp2_with (at_builtin; go_must (refine BR.push_ev (w := wr) (y := s % 256) HR4.out rfl (.tmp 23) (.tmp 28) rfl rfl rfl HB4.out.size (by rw [List.length_append, List.length_take]; omega) ?_; intro v5 w5 hr5 hb5 hat; have HR5 := Lib.hid hr5; have HB5 := Lib.hid (HB4.out.trans hb5); clear hr5 hb5 hat))
      go_roundg 1
      case measure => omega
      case rel => exact ⟨4, by omega, by simp, Lib.hid (by have := HR5.out; rw [List.append_assoc] at this; exact this), HB5⟩
    · go_wp2
      go_ret2
      refine ⟨_, rfl, ?_, HB4.out⟩
      show BR wr w.heap.size _ (vb b.length ++ b ++ be (sumF b))
      rw [HYS.out, HS.out]
      exact HR4.out


/-! ### Open -/
theorem getL_off (l : List Int) : ∀ (i n : Nat), i ≤ (getL l i n).2.1 ∧ (getL l i n).2.1 ≤ i + l.length ∧ ((getL l i n).2.2 = 0 ∨ (getL l i n).2.2 = 3 ∨ (getL l i n).2.2 = 4) := by
  induction l with
  | nil => intro i n; simp [getL]
  | cons c l ih =>
    intro i n
    rw [getL]
    split
    · simp
    · split
      · simp
      · have := ih (i + 1) (n + (c.toNat - 128) * 128 ^ i)
        simp only [List.length_cons]
        refine ⟨by omega, by omega, this.2.2⟩
theorem or_byte (a c : Int) (h0 : 0 ≤ a) (h1 : a < 16777216) (h2 : 0 ≤ c) (h3 : c ≤ 255) : Go.bits .or .u32 (a * 256) c = a * 256 + c := by
  refine bits_join .u32 32 (by decide) (fun n a b => ?_) 8 (a * 256) c ?_ ?_ ?_ h2 ?_ ?_
  · have b' : n < 4294967296 := b
    rw [IntKind.wrap_u32]; omega
  · omega
  · show a * 256 % 256 = 0
    omega
  · show a * 256 < 4294967296
    omega
  · show c < 256
    omega
  · show c < 4294967296
    omega
/-- The number of four bytes. -/
def be4 (l : List Int) : Int := ((l.getD 0 0 * 256 + l.getD 1 0) * 256 + l.getD 2 0) * 256 + l.getD 3 0
/-- The bytes from a place up to another. -/
def mid (b : List Int) (i j : Int) : List Int := (b.take j.toNat).drop i.toNat
def openF (b : List Int) (at_ : Int) : List Int × Int × Int :=
  if (getF b at_).2.2 ≠ 0 then ([], at_, (getF b at_).2.2)
  else if 65536 < (getF b at_).1 then ([], at_, 4)
  else if (b.length : Int) - (getF b at_).2.1 < (getF b at_).1 + 4 then ([], at_, 3)
  else if be4 (mid b ((getF b at_).2.1 + (getF b at_).1) ((getF b at_).2.1 + (getF b at_).1 + 4)) ≠ sumF (mid b (getF b at_).2.1 ((getF b at_).2.1 + (getF b at_).1)) then ([], at_, 10)
  else (mid b (getF b at_).2.1 ((getF b at_).2.1 + (getF b at_).1), (getF b at_).2.1 + (getF b at_).1 + 4, 0)
theorem getF_range (b : List Int) (at_ : Int) (hB : areBytesN b = true) (h : (getF b at_).2.2 = 0) : 0 ≤ at_ ∧ at_ ≤ (getF b at_).2.1 ∧ (getF b at_).2.1 ≤ b.length ∧ 0 ≤ (getF b at_).1 := by
  unfold getF at h ⊢
  by_cases hb : at_ < 0 ∨ (b.length : Int) < at_
  · rw [if_pos hb] at h; cases h
  · rw [if_neg hb]
    have := getL_off (b.drop at_.toNat) 0 0
    rw [List.length_drop] at this
    simp only
    omega

set_option maxHeartbeats 4000000 in
theorem open_any (A0 : Option Addr) (c0 : Nat) (b : List Int) (at_ : Int) (w : World) (hr : Kd.C (Kd.int .u8) w A0 b.length b) (hc : b.length ≤ c0) (hB : areBytesN b = true) (hl : b.length ≤ 140737488355328) :
    Calls Try.prog 22 #[.slice A0 b.length c0, .int .i64 at_] w fun e w' => ∃ v, e = .returned (.tuple #[v, .int .i64 (openF b at_).2.1, .int .i64 (openF b at_).2.2]) ∧ BR w' w.heap.size v (openF b at_).1 ∧ Below w.heap.size w w' := by
  have hg := getF_range b at_ hB
  have HR := Lib.hid hr
  have HB := Lib.hid hB
  have HG := Lib.hid (get_any A0 c0 b at_ w hr hc hB)
  clear hr hB
  obtain ⟨R, hR⟩ : ∃ R, openF b at_ = R := ⟨_, rfl⟩
  rw [hR]
  unfold openF at hR
  obtain ⟨g, hgd⟩ : ∃ g, getF b at_ = g := ⟨_, rfl⟩
  rw [hgd] at hg HG hR
  have HGD := Lib.hid hgd
  clear hgd
  obtain ⟨n, nx, er⟩ := g
  simp only at hg HG hR
  by_cases h0 : er ≠ 0
  · have h0b : (er != 0) = true := by simpa using h0
    rw [if_pos h0] at hR
    subst hR
    clear h0 hg
    go_enter Try.func22, Try.ntmps22
    go_wp2_with (go_at_call 91; refine HG.out.mono ?_; rintro e w1 ⟨rfl, rfl⟩)
    go_ret3
    exact ⟨_, rfl, Kd.R_nil _ _ _ _ _, Below.refl _ _⟩
  obtain rfl : er = 0 := by omega
  obtain ⟨ha, h1, h2, h3⟩ := hg rfl
  clear h0 hg
  rw [if_neg (by simp)] at hR
  by_cases h4 : 65536 < n
  · rw [if_pos h4] at hR
    subst hR
    go_enter Try.func22, Try.ntmps22
    go_wp2_with (go_at_call 91; refine HG.out.mono ?_; rintro e w1 ⟨rfl, rfl⟩)
    go_ret3
    exact ⟨_, rfl, Kd.R_nil _ _ _ _ _, Below.refl _ _⟩
  rw [if_neg h4] at hR
  have hU : IntKind.u64.wrap ((b.length : Int) - nx) = (b.length : Int) - nx := by rw [IntKind.wrap_u64]; omega
  by_cases h5 : (b.length : Int) - nx < n + 4
  · rw [if_pos h5] at hR
    subst hR
    go_enter Try.func22, Try.ntmps22
    go_wp2_with (go_at_call 91; refine HG.out.mono ?_; rintro e w1 ⟨rfl, rfl⟩)
    go_ret3
    exact ⟨_, rfl, Kd.R_nil _ _ _ _ _, Below.refl _ _⟩
  rw [if_neg h5] at hR
  obtain ⟨i0, hi0, hsz⟩ : ∃ i0, Try.prog.info? 5 = some i0 ∧ i0.size = 1 := by obtain ⟨i0, h, _, h2, _⟩ := info_parts info_u8; exact ⟨i0, h, h2⟩
  obtain ⟨Ax, hcx, hAx, hkx⟩ := print_mid_of (P := Try.prog) (Value.int .u8) 0 27 5 .i64 .i64 Try.underlying27 hi0 hsz A0 c0 b nx (nx + n) (by omega) (by omega) (by omega) hc
  obtain ⟨Ay, hcy, hAy, hky⟩ := print_mid_of (P := Try.prog) (Value.int .u8) 0 27 5 .i64 .i64 Try.underlying27 hi0 hsz A0 c0 b (nx + n) (nx + n + 4) (by omega) (by omega) (by omega) hc
  have hCx := Kd.C_of_reads (h1 := fun _ => rfl) (hAx _ (Kd.reads_of_C HR.out))
  have hCy := Kd.C_of_reads (h1 := fun _ => rfl) (hAy _ (Kd.reads_of_C HR.out))
  clear hAx hAy hi0 hsz hkx hky
  have hBx : areBytesN ((b.take (nx + n).toNat).drop nx.toNat) = true := areBytesN_drop (areBytesN_take HB.out _) _
  have hBy : areBytesN ((b.take (nx + n + 4).toNat).drop (nx + n).toNat) = true := areBytesN_drop (areBytesN_take HB.out _) _
  have hly : ((b.take (nx + n + 4).toNat).drop (nx + n).toNat).length = 4 := by rw [List.length_drop, List.length_take]; omega
  have hlx : ((b.take (nx + n).toNat).drop nx.toNat).length ≤ 65536 := by rw [List.length_drop, List.length_take]; omega
  unfold mid at hR
  obtain ⟨x, hx⟩ : ∃ x, (b.take (nx + n).toNat).drop nx.toNat = x := ⟨_, rfl⟩
  obtain ⟨y, hy⟩ : ∃ y, (b.take (nx + n + 4).toNat).drop (nx + n).toNat = y := ⟨_, rfl⟩
  rw [hx] at hCx hcx hBx hlx hR
  rw [hy] at hCy hcy hBy hly hR
  clear hx hy
  match y, hly with
  | [y0, y1, y2, y3], _ =>
  have e0 := getN_get hBy (k := 0) (by simp)
  have e1 := getN_get hBy (k := 1) (by simp)
  have e2 := getN_get hBy (k := 2) (by simp)
  have e3 := getN_get hBy (k := 3) (by simp)
  obtain ⟨ady, ea, cy0⟩ := Kd.at_int hCy 0 (by decide) (by simp)
  obtain ⟨ady1, ea1, cy1⟩ := Kd.at_int hCy 1 (by decide) (by simp)
  obtain ⟨ady2, ea2, cy2⟩ := Kd.at_int hCy 2 (by decide) (by simp)
  obtain ⟨ady3, ea3, cy3⟩ := Kd.at_int hCy 3 (by decide) (by simp)
  subst ea
  cases ea1; cases ea2; cases ea3
  change w.cell? (ady.add 0) = some (.int .u8 y0) at cy0
  change w.cell? (ady.add 1) = some (.int .u8 y1) at cy1
  change w.cell? (ady.add 2) = some (.int .u8 y2) at cy2
  change w.cell? (ady.add 3) = some (.int .u8 y3) at cy3
  change 0 ≤ y0 ∧ y0 ≤ 255 at e0
  change 0 ≤ y1 ∧ y1 ≤ 255 at e1
  change 0 ≤ y2 ∧ y2 ≤ 255 at e2
  change 0 ≤ y3 ∧ y3 ≤ 255 at e3
  obtain ⟨p0, q0⟩ := e0
  obtain ⟨p1, q1⟩ := e1
  obtain ⟨p2, q2⟩ := e2
  obtain ⟨p3, q3⟩ := e3
  have HRR := Lib.hid hR
  clear hR
  have HCX := Lib.hid hCx
  have HBX := Lib.hid hBx
  have HY0 := Lib.hid cy0
  have HY1 := Lib.hid cy1
  have HY2 := Lib.hid cy2
  have HY3 := Lib.hid cy3
  clear hCx hBx hCy hBy cy0 cy1 cy2 cy3 hU
  simp only [List.length_cons, List.length_nil] at hcy
  go_enter Try.func22, Try.ntmps22
  go_wp2_with (first
    | (go_at_call 91; refine HG.out.mono ?_; rintro e w1 ⟨rfl, rfl⟩)
    | (at_builtin; refine BR.append_ev (w := w) (Kd.R_nil _ _ _ w.heap.size _) HCX.out rfl (.const (.slice none 0 0)) (.tmp 47) rfl rfl rfl (Nat.le_refl _) (by simp only [List.length_nil]; omega) ?_; intro v2 w2 hr2 hb2 hat; rw [List.nil_append] at hr2; obtain ⟨A2, k2, rfl, hk2, hC2⟩ := BR.len hr2; have HC2 := Lib.hid hC2; have HR2 := Lib.hid hr2; have HB2 := Lib.hid hb2; clear hr2 hb2 hat hk2 hC2))
  have z0 := pw_cell_below HB2.out HY0.out
  have z1 := pw_cell_below HB2.out HY1.out
  have z2 := pw_cell_below HB2.out HY2.out
  have z3 := pw_cell_below HB2.out HY3.out
  have HZ : Hid (w2.cell? (ady.add 0) = some (.int .u8 y0) ∧ w2.cell? (ady.add 1) = some (.int .u8 y1) ∧ w2.cell? (ady.add 2) = some (.int .u8 y2) ∧ w2.cell? (ady.add 3) = some (.int .u8 y3)) := Lib.hid ⟨z0, z1, z2, z3⟩
  clear z0 z1 z2 z3
  go_loopg [12, 59] 5 (fun g s12 s59 wr => w2 = wr ∧ ((g = 5 ∧ s59 = .int .i64 0 ∧ s12 = .int .u32 0) ∨ (g = 4 ∧ s59 = .int .i64 1 ∧ s12 = .int .u32 y0) ∨ (g = 3 ∧ s59 = .int .i64 2 ∧ s12 = .int .u32 (y0 * 256 + y1)) ∨ (g = 2 ∧ s59 = .int .i64 3 ∧ s12 = .int .u32 ((y0 * 256 + y1) * 256 + y2)) ∨ (g = 1 ∧ s59 = .int .i64 4 ∧ s12 = .int .u32 (((y0 * 256 + y1) * 256 + y2) * 256 + y3))))
  case atStart => exact ⟨rfl, .inl ⟨rfl, rfl, rfl⟩⟩
  case round =>
    obtain ⟨rfl, hrel⟩ := hrel
    rcases hrel with ⟨rfl, rfl, rfl⟩ | ⟨rfl, rfl, rfl⟩ | ⟨rfl, rfl, rfl⟩ | ⟨rfl, rfl, rfl⟩ | ⟨rfl, rfl, rfl⟩
    · have hcell : w2.cell? ady = some (.int .u8 y0) := by simpa [Addr.add] using HZ.out.1
      have hor : Go.bits .or .u32 0 y0 = y0 := by have := or_byte 0 y0 (by omega) (by omega) p0 q0; simpa using this
      go_wp2
      go_roundg 4
      case measure => omega
      case rel => exact ⟨rfl, .inr (.inl ⟨rfl, rfl, by first | rfl | simp⟩)⟩
    · have hcell : w2.cell? ⟨ady.block, ady.off + 1, none⟩ = some (.int .u8 y1) := by simpa [Addr.add] using HZ.out.2.1
      have hor := or_byte y0 y1 (by omega) (by omega) p1 q1
      go_wp2
      go_roundg 3
      case measure => omega
      case rel => exact ⟨rfl, .inr (.inr (.inl ⟨rfl, rfl, by first | rfl | simp⟩))⟩
    · have hcell : w2.cell? ⟨ady.block, ady.off + 2, none⟩ = some (.int .u8 y2) := by simpa [Addr.add] using HZ.out.2.2.1
      have hor := or_byte (y0 * 256 + y1) y2 (by omega) (by omega) p2 q2
      go_wp2
      go_roundg 2
      case measure => omega
      case rel => exact ⟨rfl, .inr (.inr (.inr (.inl ⟨rfl, rfl, by first | rfl | simp⟩)))⟩
    · have hcell : w2.cell? ⟨ady.block, ady.off + 3, none⟩ = some (.int .u8 y3) := by simpa [Addr.add] using HZ.out.2.2.2
      have hor := or_byte ((y0 * 256 + y1) * 256 + y2) y3 (by omega) (by omega) p3 q3
      go_wp2
      go_roundg 1
      case measure => omega
      case rel => exact ⟨rfl, .inr (.inr (.inr (.inr (⟨rfl, rfl, by first | rfl | simp⟩))))⟩
    · have hs := sumF_range x
      obtain ⟨sx, hsx⟩ : ∃ sx, sumF x = sx := ⟨_, rfl⟩
      rw [hsx] at hs
      obtain ⟨hs0, hs1⟩ := hs
      have HSX := Lib.hid hsx
      clear hsx
      obtain ⟨sy, hsy⟩ : ∃ sy, ((y0 * 256 + y1) * 256 + y2) * 256 + y3 = sy := ⟨_, rfl⟩
      rw [hsy]
      have HSY := Lib.hid hsy
      clear hsy
      have hd : R = if sy = sx then (x, nx + n + 4, 0) else ([], at_, 10) := by
        have e : be4 [y0, y1, y2, y3] = sy := HSY.out
        have hR := HRR.out
        rw [e, HSX.out] at hR
        rw [← hR]
        by_cases hh : sy = sx
        · rw [if_pos hh, if_neg (by simpa using hh)]
        · rw [if_neg hh, if_pos hh]
      have HD := Lib.hid hd
      clear hd
      by_cases hne : sy = sx
      · have hne' : (sy != sx) = false := by simpa using hne
        have HNE := Lib.hid hne
        clear hne
        go_wp2_with (go_at_call 90; refine (of_any A2 k2 x _ HC2.out HBX.out).mono ?_; rintro e w3 ⟨rfl, hb⟩; have HR3 := Lib.hid (Kd.R_below HR2.out hb); have HB3 := Lib.hid (HB2.out.trans (hb.mono HB2.out.size)); have hsx := HSX.out; rw [hsx]; clear hb hsx)
        go_ret3
        have hd := HD.out
        rw [if_pos HNE.out] at hd
        subst hd
        exact ⟨_, rfl, HR3.out, HB3.out⟩
      · have hne' : (sy != sx) = true := by simpa using hne
        have HNE := Lib.hid hne
        clear hne
        go_wp2_with (go_at_call 90; refine (of_any A2 k2 x _ HC2.out HBX.out).mono ?_; rintro e w3 ⟨rfl, hb⟩; have HR3 := Lib.hid (Kd.R_below HR2.out hb); have HB3 := Lib.hid (HB2.out.trans (hb.mono HB2.out.size)); have hsx := HSX.out; rw [hsx]; clear hb hsx)
        go_ret3
        have hd := HD.out
        rw [if_neg HNE.out] at hd
        subst hd
        exact ⟨_, rfl, Kd.R_nil _ _ _ _ _, HB3.out⟩

end Go.Proofs.Ytmbnjgnmblgjoaa.Man
