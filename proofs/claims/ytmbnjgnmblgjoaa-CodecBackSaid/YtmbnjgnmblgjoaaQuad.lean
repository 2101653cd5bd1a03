/- quad.groups, quad.Len, quad.Put of the given program: what they come to, for every number of uint64's range and every row of them behind every row of bytes (as long as the bytes have room: fewer than 2^47). -/
import Derived.Test.YtmbnjgnmblgjoaaMarks
import Derived.WalkKit
import Derived.KernelRfl
import Derived.Outline
import Derived.Lib.Hide
import Derived.Deep.LoopGhost
import Derived.OneCell
import Derived.Maps.AppendAt
import Derived.Test.YtmbnjgnmblgjoaaWWords
import Derived.Test.YtmbnjgnmblgjoaaWLast
import Derived.Test.YtmbnjgnmblgjoaaWMore
namespace Go.Proofs.Ytmbnjgnmblgjoaa.Man
open Go.RowKit Go.Shelf Go.Proofs.YtmbnjgnmblgjoaaW.PrintWords Go.Proofs.YtmbnjgnmblgjoaaW.PrintLast Go.Proofs.YtmbnjgnmblgjoaaW.PrintMore
set_option linter.unusedVariables false
set_option linter.unusedSimpArgs false
attribute [local go_sem] Oper.semAt_some

/-- A number's bytes. -/
def vb (n : Nat) : List Int := if h : n < 128 then [(n : Int)] else ((n % 128 + 128 : Nat) : Int) :: vb (n / 128)
termination_by n
decreasing_by omega
theorem vb_small {n : Nat} (h : n < 128) : vb n = [(n : Int)] := by rw [vb, dif_pos h]
theorem vb_great {n : Nat} (h : ¬ n < 128) : vb n = ((n % 128 + 128 : Nat) : Int) :: vb (n / 128) := by rw [vb, dif_neg h]

theorem or128 (n : Nat) : Go.bits .or .u8 ((n % 256 : Nat) : Int) 128 = ((n % 128 + 128 : Nat) : Int) := by
  have h : ∀ m : Fin 256, Go.bits .or .u8 ((m.val : Nat) : Int) 128 = ((m.val % 128 + 128 : Nat) : Int) := by decide +kernel
  have := h ⟨n % 256, Nat.mod_lt _ (by decide)⟩
  simp only at this
  rw [this]; congr 1; omega

/-- The number that lies in a box. -/
def boxNat (W : World) (B : Nat) : Nat := match W.cell? ⟨B, 0, none⟩ with | some (.int _ m) => m.toNat | _ => 0
theorem boxNat_eq {W : World} {B t : Nat} {k : IntKind} {m : Nat} (h : Boxed W B t (.int k m)) : boxNat W B = m := by unfold boxNat; rw [h.cell]; simp

/-- What quad.groups' function does between two rounds: it writes its own box. -/
def Turns (B : Nat) (X Y : World) : Prop := ∃ u : Int, Y = X.setCell ⟨B, 0, none⟩ (.int .u64 u)
theorem Turns.grown {B : Nat} {X Y : World} (h : Turns B X Y) : X.grownBy Y (some B) := by obtain ⟨u, rfl⟩ := h; exact grownBy_setCell' _ _ _

theorem groups_in (F : Fence) (k : Nat) (h1 : F.fn 141) (hro : F.round = none) (n : Int) (w : World) :
    CallsIn F k Try.prog 141 #[.int .u64 n] w fun e w' => e = .returned (.func (.func 159) #[] #[.pointer (some ⟨w.heap.size, 0, none⟩)]) ∧ w' = w.alloc (.cells #[.int .u64 n] 90) := by
  refine callsIn_of_wp Try.func141 rfl h1 ?_ hro
  simp only [Try.ntmps141, List.size_toArray, List.length_cons, List.length_nil, Nat.reduceAdd, Nat.reduceSub, Array.replicate_succ, Array.replicate_zero, List.push_toArray, List.append_toArray, List.nil_append, List.cons_append]
  gi_wp2
  go_ret
  exact ⟨rfl, rfl⟩

set_option maxRecDepth 100000 in
set_option maxHeartbeats 2000000 in
theorem groups1_in (F : Fence) (k : Nat) (h1 : F.fn 159) (hro : F.round = none) (hk : 1 ≤ k) (l Bn : Nat) (n : Nat) (hn : n < 18446744073709551616) (J : List Int → World → Prop)
    (hJ : ∀ s A B, J s A → Turns Bn A B → J s B)
    (hY : ∀ pre x W, J pre W → pre ++ [x] <+: vb n → YieldAt F (k - 1) Try.prog l #[.int .u8 x] W fun e W' => e = .returned (.bool true) ∧ J (pre ++ [x]) W' ∧ W'.heap[Bn]? = W.heap[Bn]?)
    (W : World) (hB : Boxed W Bn 90 (.int .u64 n)) (h0 : J [] W) :
    CallsIn F k Try.prog 159 #[.func (.yield l) #[] #[], .pointer (some ⟨Bn, 0, none⟩)] W fun e W' => (∃ v, e = .returned v) ∧ ∃ xs, xs = vb n ∧ J xs W' := by
  refine callsIn_of_wp Try.func159 rfl h1 ?_ hro
  simp only [Try.ntmps159, List.size_toArray, List.length_cons, List.length_nil, Nat.reduceAdd, Nat.reduceSub, Array.replicate_succ, Array.replicate_zero, List.push_toArray, List.append_toArray, List.nil_append, List.cons_append]
  gi_wp2
  gi_loopw [3] (fun _ wr => ∃ (pre : List Int) (m : Nat), Hid (vb n = pre ++ vb m) ∧ m < 18446744073709551616 ∧ Boxed wr Bn 90 (.int .u64 (m : Int)) ∧ J pre wr)
    (fun _ wr => boxNat wr Bn)
  case atStart => exact ⟨[], n, Lib.hid rfl, hn, hB, h0⟩
  case round =>
    clear hB h0
    obtain ⟨pre, m, hx, hm, hB, hJs⟩ := hrel
    have cB := hB.cell
    have fB := hB.frozen
    have hlt := hB.lt
    by_cases hs : m < 128
    · have hd : ((m : Int) > 127) = False := by simp; omega
      have ht : decide ((m : Int) > 127) = false := by simp; omega
      have hpx : pre ++ [(m : Int)] <+: vb n := by rw [hx.out, vb_small hs]; exact List.prefix_refl _
      obtain ⟨fn, tmps, assign, body, hy, hR⟩ := hY pre (m : Int) wr hJs hpx
      have HX := Lib.hid hpx
      clear hpx
      gi_wp2
      refine hR.mono ?_
      rintro e W3 ⟨rfl, hJ3, hk3⟩
      gi_wp2
      go_end0
      exact ⟨⟨_, rfl⟩, pre ++ [(m : Int)], by rw [hx.out, vb_small hs], hJ3⟩
    · have ht : decide ((m : Int) > 127) = true := by simp; omega
      have hpx : pre ++ [((m % 128 + 128 : Nat) : Int)] <+: vb n := by
        rw [hx.out, vb_great hs]; exact ⟨vb (m / 128), by simp⟩
      have ho : Go.bits .or .u8 ((m : Int) % 256) 128 = ((m % 128 + 128 : Nat) : Int) := by have := or128 m; simpa using this
      obtain ⟨x, hxe⟩ : ∃ x, ((m % 128 + 128 : Nat) : Int) = x := ⟨_, rfl⟩
      rw [hxe] at ho hpx
      have HXE := Lib.hid hxe
      clear hxe
      obtain ⟨fn, tmps, assign, body, hy, hR⟩ := hY pre _ wr hJs hpx
      have HX := Lib.hid hpx
      clear hpx
      gi_wp2
      refine hR.mono ?_
      rintro e W3 ⟨rfl, hJ3, hk3⟩
      have hB3 : Boxed W3 Bn 90 (.int .u64 (m : Int)) := hk3.trans hB
      have cB3 := hB3.cell
      have fB3 := hB3.frozen
      gi_wp2
      go_roundw
      case rel =>
        refine ⟨pre ++ [x], m / 128, Lib.hid (by rw [hx.out, vb_great hs, ← HXE.out]; simp), by omega, ?_, hJ _ _ _ hJ3 ⟨_, rfl⟩⟩
        have := hB3.set (.int .u64 ((m : Int) / 128))
        simpa using this
      case measure =>
        have := hB3.set (.int .u64 ((m : Int) / 128))
        rw [boxNat_eq (m := m / 128) (by simpa using this), boxNat_eq hB]
        omega

theorem groups_all (F : Fence) (k : Nat) (h1 : F.fn 159) (hro : F.round = none) (hk : 1 ≤ k) (Bn n : Nat) (hn : n < 18446744073709551616) (w : World) (hB : Boxed w Bn 90 (.int .u64 n)) :
    SeqAll F k Try.prog 159 #[.pointer (some ⟨Bn, 0, none⟩)] (fun x : Int => #[Value.int .u8 x]) (Turns Bn) (fun A B => B.heap[Bn]? = A.heap[Bn]?) (fun xs => xs = vb n) (fun pre => pre <+: vb n) w :=
  fun l J W hW hJ hY h0 => groups1_in F k h1 hro hk l Bn n hn J hJ hY W ((hW.block Bn hB.lt).trans hB) h0

theorem vb_length_pos (n : Nat) : 0 < (vb n).length := by
  by_cases h : n < 128
  · rw [vb_small h]; simp
  · rw [vb_great h]; simp
theorem vb_length_le (j : Nat) : ∀ n : Nat, n < 128 ^ (j + 1) → (vb n).length ≤ j + 1 := by
  induction j with
  | zero => intro n h; rw [vb_small (by simpa using h)]; simp
  | succ j ih =>
    intro n h
    by_cases hs : n < 128
    · rw [vb_small hs]; simp
    · rw [vb_great hs]
      have := ih (n / 128) (by rw [Nat.pow_succ] at h; exact Nat.div_lt_of_lt_mul (by omega))
      simp only [List.length_cons]; omega
theorem vb_le_ten {n : Nat} (h : n < 18446744073709551616) : (vb n).length ≤ 10 := vb_length_le 9 n (by omega)

theorem wide_fn (k : Nat) : Fence.wide.fn k = True := rfl
theorem groups_any (n : Int) (w : World) : Calls Try.prog 141 #[.int .u64 n] w fun e w' => e = .returned (.func (.func 159) #[] #[.pointer (some ⟨w.heap.size, 0, none⟩)]) ∧ w' = w.alloc (.cells #[.int .u64 n] 90) :=
  callsIn_wide.1 (groups_in Fence.wide 3 trivial rfl n w)

/-- Numbers' bytes. -/
def vbs (l : List Int) : List Int := l.flatMap fun x => vb x.toNat
theorem vbs_nil : vbs [] = [] := rfl
theorem vbs_snoc (l : List Int) (x : Int) : vbs (l ++ [x]) = vbs l ++ vb x.toNat := by simp [vbs]
def areU64 (l : List Int) : Bool := l.all fun c => decide (0 ≤ c ∧ c < 18446744073709551616)
theorem areU64_get {l : List Int} (h : areU64 l = true) {k : Nat} (hk : k < l.length) : 0 ≤ l.getD k 0 ∧ l.getD k 0 < 18446744073709551616 := by
  unfold areU64 at h
  rw [List.all_eq_true] at h
  have := h (l.getD k 0) (by rw [show l.getD k 0 = l[k] by simp [List.getD, hk]]; exact List.getElem_mem hk)
  simpa using this

set_option maxRecDepth 100000 in
set_option maxHeartbeats 4000000 in
theorem put_any (A0 A1 : Option Addr) (c0 c1 : Nat) (b l : List Int) (w : World) (hb : Kd.C (Kd.int .u8) w A0 b.length b) (hl : Kd.C (Kd.int .u64) w A1 l.length l) (hU : areU64 l = true) (hroom : (b ++ vbs l).length ≤ 140737488355328) :
    Calls Try.prog 89 #[.slice A0 b.length c0, .slice A1 l.length c1] w fun e w' => ∃ v, e = .returned v ∧ Kd.R (Kd.int .u8) 5 w' w.heap.size (fun _ => True) v (b ++ vbs l) ∧ Below w.heap.size w w' := by
  have info5 : (Try.prog.info? 5).map (fun i => (i.zero, i.size, i.bytes)) = some (some (.int .u8 0), 1, 1) := by kernel_rfl
  obtain ⟨i0, hi, hz0, hz1, hz2⟩ := info_parts info5
  have HB := Lib.hid hb
  have HL := Lib.hid hl
  have HU := Lib.hid hU
  have HR := Lib.hid hroom
  clear hb hl hU hroom
  refine (callsIn_wide (n := 3)).1 ?_
  refine callsIn_of_wp_marks Try.func89 rfl trivial ?_ rfl
  simp only [Try.ntmps89, List.size_toArray, List.length_cons, List.length_nil, Nat.reduceAdd, Nat.reduceSub, Array.replicate_succ, Array.replicate_zero, List.push_toArray, List.append_toArray, List.nil_append, List.cons_append]
  refine wpIn_wide.2 ?_
  go_upto_region 1 with (fail)
  go_step
  go_step
  go_step
  go_step
  at_builtin
  refine Kd.R_append_rows (Kd.int .u8) (w0 := w) w.heap.size rfl (.const (.slice none 0 0)) (.tmp 9) 27 5 (.int .u8 0) 1 rfl Try.underlying27 info5 rfl (by decide) (by omega) (.slice none 0 0) [] b _ _ _ (fun _ => True) (fun _ => False) rfl rfl (Kd.R_nil _ _ _ _ _) ?aR (fun _ _ h => h) (fun _ h => h.elim) (fun _ _ => trivial) (Below.refl _ _) (Nat.le_refl _) ?aL ?_
  (case aR => exact HB.out)
  (case aL => (have := HR.out; simp at this ⊢; omega))
  intro v1 w1 hown hbel _ _
  have hlu : l.length ≤ 9223372036854775807 := HL.out.2.1
  have HO := Lib.hid (Kd.own_of_R hown)
  have HBL := Lib.hid hbel
  clear hown hbel
  obtain ⟨A2, c2, rfl⟩ := own_slice HO.out
  go_wp2
  obtain ⟨I, HI⟩ : ∃ I : Act → World → Prop, Hid (∀ a wr, I a wr ↔ ∃ (k : Nat) (v : Value) (ds : List Deferred) (x7 x8 x14 x15 x16 x17 x18 x19 x20 x21 x22 x23 x24 : Value), k ≤ l.length ∧ Boxed wr w1.heap.size 27 v ∧
      wr.ownsRow w.heap.size 5 1 v (b ++ vbs (l.take k)).length (encs (Value.int .u8) (b ++ vbs (l.take k))) ∧ Below w.heap.size w wr ∧ Marks w.heap.size ds wr ∧
      a = { tmps := #[.slice A0 b.length c0, .slice A1 l.length c1, undef, undef, .slice none 0 0, .pointer (some ⟨w1.heap.size, 0, none⟩), undef, x7, x8, .slice A0 b.length c0, .slice A2 b.length c2, .slice A1 l.length c1, .int .i64 l.length, .int .i64 k, x14, x15, x16, x17, x18, x19, x20, x21, x22, x23, x24, undef], defers := ds }) := ⟨_, Lib.hid fun _ _ => Iff.rfl⟩
  obtain ⟨μ, Hμ⟩ : ∃ μ : Act → World → Nat, Hid (∀ a wr, μ a wr = l.length - (intOf (a.tmps.getD 13 undef)).toNat) := ⟨_, Lib.hid fun _ _ => rfl⟩
  refine wp_loop I μ ?start ?round
  case start =>
    exact (HI.out _ _).2 ⟨0, _, [], undef, undef, undef, undef, undef, undef, undef, undef, undef, undef, undef, undef, undef, Nat.zero_le _, Boxed.new w1 _ _, by simpa [vbs] using HO.out.alloc _, HBL.out.alloc HBL.out.size _, trivial, rfl⟩
  case round =>
    intro a wr hI
    obtain ⟨k, v, ds, x7, x8, x14, x15, x16, x17, x18, x19, x20, x21, x22, x23, x24, hk, hbx', hown', hbel', hmk', rfl⟩ := (HI.out _ _).1 hI
    clear hI
    obtain ⟨A3, c3, rfl⟩ := own_slice hown'
    have hbx := Lib.hid hbx'
    have hown := Lib.hid hown'
    have hbel := Lib.hid hbel'
    have hmk := Lib.hid hmk'
    clear hbx' hown' hbel' hmk'
    by_cases hlt : k < l.length
    · obtain ⟨ad, rfl, hcell⟩ := Kd.at_int (Kd.C_below HL.out hbel.out) (k : Int) (by omega) (by omega)
      have hrd : rd l (k : Int) = l.getD k 0 := rfl
      rw [hrd, Int.toNat_natCast] at hcell
      obtain ⟨hx0, hx1⟩ := areU64_get HU.out hlt
      obtain ⟨x, hx⟩ : ∃ x : Nat, l.getD k 0 = (x : Int) := ⟨(l.getD k 0).toNat, by omega⟩
      rw [hx] at hcell hx1
      have HX := Lib.hid hx
      clear hrd hx hx0
      have hx2 : x < 18446744073709551616 := by omega
      clear hx1
      go_wp2_with (go_at_call 141; refine (groups_any _ _).mono ?_; rintro e w' ⟨rfl, rfl⟩)
      have bN := Boxed.new wr 90 (.int .u64 (x : Int))
      have hvk : vbs (l.take (k + 1)) = vbs (l.take k) ++ vb x := by
        rw [List.take_succ_eq_append_getElem hlt, vbs_snoc]
        congr 2
        have := HX.out
        rw [show l.getD k 0 = l[k] by simp [List.getD, hlt]] at this
        rw [this]; rfl
      have hlen : (b ++ vbs (l.take k)).length + (vb x).length ≤ 140737488355328 := by
        have h1 := HR.out
        have h2 : (vbs (l.take (k + 1))).length ≤ (vbs l).length := by
          have : vbs l = vbs (l.take (k + 1)) ++ vbs (l.drop (k + 1)) := by unfold vbs; rw [← List.flatMap_append, List.take_append_drop]
          rw [this]; simp
        rw [hvk] at h2
        simp only [List.length_append] at *; omega
      have HVK := Lib.hid hvk
      clear hvk
      refine (wpIn_wide (n := 3)).1 ?_
      refine wpIn_rangeAll rfl (by decide) (gf := 159) (lb := #[.pointer (some ⟨wr.heap.size, 0, none⟩)]) rfl trivial (enters_of Try.func159 (by kernel_rfl) rfl)
        (groups_all Fence.wide 2 trivial rfl (by decide) wr.heap.size x hx2 _ bN) (fun A B j o hg hj h => (hg.grown.block _ (Array.getElem?_eq_some_iff.1 h).1 (fun e => by cases e; simp only [World.size_alloc] at hj; omega)).trans h)
        (fun h k => Eq.trans k h) (fun W l o o' hl h _ => World.putObj_heap_other (by simp at hl; omega)) ?hps
        (fun pre W => ∃ v, Boxed W w1.heap.size 27 v ∧ W.ownsRow w.heap.size 5 1 v ((b ++ vbs (l.take k)) ++ pre).length (encs (Value.int .u8) ((b ++ vbs (l.take k)) ++ pre)) ∧ Below w.heap.size w W ∧ (∃ u, Boxed W wr.heap.size 90 (.int .u64 u)) ∧ Marks w.heap.size ds W)
        ?hI ?hIr ?h0 ?fr ?assign ?body ?done
      case hps => intro _; rfl
      case hI =>
        rintro s X Y row ⟨v, hb, ho, hB, ⟨u, hu⟩, hm⟩ hg hr
        have nc := fun r e => (hr r e).2
        have hge : ∀ r, row = some r → wr.heap.size + 1 ≤ r := fun r e => by have := (hr r e).1; simpa using this
        refine ⟨v, boxed_nc hb hg nc, own_nc ho hg nc, hB.grown hg hB.size (fun r e => by have := hge r e; have := hbel.out.size; omega), ⟨u, boxed_nc hu hg nc⟩, ?_⟩
        exact hm.kept_lt (B := wr.heap.size) (hmk.out.lt) (fun j hj => hg.block j (by have := hu.lt; omega) (fun e => by have := hge j e.symm; omega))
      case hIr =>
        rintro s X Y ⟨v, hb, ho, hB, ⟨u, hu⟩, hm⟩ ⟨u', rfl⟩
        have hne : w1.heap.size ≠ wr.heap.size := by have := hbx.out.lt; omega
        exact ⟨v, hb.other hne _, ho.kept (grownBy_setCell' X _ _) (.inr (hu.not_row (by decide) ho).symm), hB.setCell (p := ⟨wr.heap.size, 0, none⟩) hbel.out.size _, ⟨u', hu.set _⟩, hm.kept (fun j o _ hj hc => (KeepsOthers.setCell X ⟨wr.heap.size, 0, none⟩ (.int .u64 u')).same j o hj hc)⟩
      case h0 =>
        refine ⟨_, hbx.out.alloc _, by rw [List.append_nil]; exact hown.out.alloc _, hbel.out.alloc hbel.out.size _, ⟨_, bN⟩, hmk.out.kept (fun j o _ hj _ => (Below.heap_alloc _ _ _ (Array.getElem?_eq_some_iff.1 hj).1).trans hj)⟩
      case assign =>
        intro l' x' W K hK
        gi_wp2
        exact hK
      case body =>
        rintro l' pre c W ⟨v, hb, ho, hB, ⟨u, hu⟩, hm⟩ hpre
        have hlen2 : ((b ++ vbs (l.take k)) ++ pre).length + 1 ≤ 140737488355328 := by have := hpre.length_le; simp only [List.length_append, List.length_cons, List.length_nil] at *; omega
        obtain ⟨ys, hys⟩ : ∃ ys, (b ++ vbs (l.take k)) ++ pre = ys := ⟨_, rfl⟩
        rw [hys] at ho hlen2
        have HYS := Lib.hid hys
        clear hys
        have hcb := hb.cell
        have hBo := hB
        have hlen3 : ys.length + 1 ≤ 9223372036854775807 := by omega
        have HPX := Lib.hid hpre
        clear hpre
        gi_wp2_with (gi_at_builtin; refine wpListIn_append_own _ rfl _ _ 27 rfl w.heap.size 5 i0 (.int .u8 0) 1 1 Try.underlying27 hi hz0 hz1 hz2 rfl (by decide) _ _ _ rfl (ho.alloc _) ⟨W.heap.size, 0, none⟩ 1 1 [.int .u8 c] rfl rfl (cell_one_new _ _ _) (by simp [Value.oneCell']) (by unfold maxLen; omega) (by omega) (by have := hB.size; simp; omega) ?_; intro v' w2 hown' hgrow _; obtain ⟨g', cap', rfl⟩ := ownsRow_succ hown'; obtain ⟨hv1, hv2, hr2, hk2, hb2⟩ := hb.appended (by decide) ho hB.size HBL.out.size hown' hgrow; have hc1 := hv1.cell; have hf1 := hv1.frozen)
        have hne : wr.heap.size ≠ w1.heap.size := by have := hbx.out.lt; omega
        have hu2 : (w2.setCell ⟨w1.heap.size, 0, none⟩ (.slice (some ⟨g', 0, none⟩) (ys.length + 1) cap')).heap[wr.heap.size]? = W.heap[wr.heap.size]? := by
          rw [Below.heap_setCell _ _ _ _ (by simpa using hne)]
          refine (hgrow.block _ (by have := hu.lt; simp; omega) (hu.not_row (by decide) ho)).trans ?_
          exact Below.heap_alloc _ _ _ hu.lt
        have e1 : (b ++ vbs (l.take k)) ++ (pre ++ [c]) = ys ++ [c] := by rw [← HYS.out]; simp
        refine ⟨hk2.from _, hu2, _, hv2, ?_, hBo.trans hb2, ⟨u, hu2.trans hu⟩, hm.kept (fun j o _ hj hc => hk2.same j o hj hc)⟩
        rw [e1, List.length_append, encs, List.map_append]
        exact hr2
      case done =>
        rintro D xs W hD rfl ⟨v, hb, ho, hB, _, hm⟩ hK
        have hcb := hb.cell
        have HBX := Lib.hid hb
        have HOX := Lib.hid ho
        have HBB := Lib.hid hB
        have HM := Lib.hid hm
        clear hb ho hB hm
        go_wp2
        refine ⟨(HI.out _ _).2 ⟨k + 1, v, _, _, _, _, _, _, _, _, _, _, _, _, _, _, by omega, HBX.out, by rw [HVK.out, ← List.append_assoc]; exact HOX.out, HBB.out, HM.out.push (by simp only [World.size_alloc] at hD; have := hbel.out.size; omega) hK (fun d hd D' hD' => by have := hmk.out.lt d hd D' hD'; simp only [World.size_alloc] at hD; omega), rfl⟩, ?_⟩
        rw [Hμ.out, Hμ.out]
        simp [intOf]; omega
    · obtain rfl : k = l.length := by omega
      have cb := hbx.out.cell
      go_wp2
      refine leaves_marks ds _ hmk.out (fun W' hs => ?_)
      refine ⟨_, results_tmp rfl _ _ _, _, rfl, ?_, hbel.out.trans hs.below⟩
      have := own_move_ hown.out hs.cells
      rw [List.take_length] at this
      exact Kd.R_of_own (by simpa using this) (fun _ _ => trivial)

/-! ### The forms in which the texts written by wip/tools/ppatch.py call them -/
def quad_Put.f (l0 l1 : List Int) : Option (List Int) := if areU64 l1 = true ∧ (l0 ++ vbs l1).length ≤ 140737488355328 then some (l0 ++ vbs l1) else none
theorem quad_Put.calls (A0 : Option Addr) (c0 : Nat) (l0 : List Int) (A1 : Option Addr) (c1 : Nat) (l1 : List Int) (r : List Int) (w : World) (hr0 : Kd.C (Kd.int .u8) w A0 l0.length l0) (hc0 : l0.length ≤ c0) (hr1 : Kd.C (Kd.int .u64) w A1 l1.length l1) (hc1 : l1.length ≤ c1) (h : quad_Put.f l0 l1 = some r) :
    Calls Try.prog 89 #[.slice A0 l0.length c0, .slice A1 l1.length c1] w fun e w' => ∃ v0_ : Value, e = .returned (v0_) ∧ Kd.R (Kd.int .u8) 5 w' w.heap.size (fun _ => True) v0_ r ∧ Below w.heap.size w w' := by
  unfold quad_Put.f at h
  split at h
  · rename_i hc
    obtain rfl := Option.some.inj h
    exact put_any A0 A1 c0 c1 l0 l1 w hr0 hr1 hc.1 hc.2
  · cases h

end Go.Proofs.Ytmbnjgnmblgjoaa.Man
