-- Laid together by a program of this session (wip/tools/shake.py). Not trusted: Lean checks it.
import Derived.Test.YtmbnjgnmblgjoaaKe3

-- JAppend
section
/- A journal's Append. Printed by wip/tools/gen_jappend.py. -/

namespace Go.Proofs.Ytmbnjgnmblgjoaa.Man
open Go.RowKit Go.Shelf Go.Proofs.YtmbnjgnmblgjoaaW.PrintWords Go.Proofs.YtmbnjgnmblgjoaaW.PrintLast Go.Proofs.YtmbnjgnmblgjoaaW.PrintMore
set_option linter.unusedVariables false
set_option linter.unusedSimpArgs false
set_option maxRecDepth 100000
def jaR12.T : Bool × List (List Nat × List Nat) := (true, [([], []), ([], []), ([1], [1]), ([], []), ([3], [3]), ([0, 2, 4], [0, 2, 4]), ([], []), ([6], [6]), ([7], [7]), ([8], [8]), ([9], [9]), ([], []), ([11], [11]), ([10, 12], [10, 12]), ([13], [13]), ([5, 14, 10], [5, 14]), ([15, 15, 0, 1, 2, 3, 4, 5, 6, 7, 8, 9, 10, 11, 12, 13, 14, 15], [0, 1, 3, 15])])
def jaR12.B : List Nat := [0, 0, 2, 0, 8, 31, 0, 64, 192, 448, 960, 0, 2048, 8128, 16320, 32767, 65535]
theorem jaR12.tab : rtab .any (opsOf Try.f76 12) = jaR12.T := by kernel_rfl
theorem jaR12.bits : waitsOk jaR12.T.2 jaR12.B = true := by kernel_rfl

/-- The first error of entries that are to be appended. -/
def jErr : List K.S26 → Int
  | [] => 0
  | x :: xs => if frameErr x = 0 then jErr xs else frameErr x
theorem jErr_fine : ∀ {l : List K.S26}, jErr l = 0 → ∀ x ∈ l, Fine x
  | [], _, x, hx => by cases hx
  | y :: ys, h, x, hx => by
    unfold jErr at h
    by_cases h0 : frameErr y = 0
    · rw [if_pos h0] at h
      rcases List.mem_cons.1 hx with rfl | hx
      · exact frameErr_fine.1 h0
      · exact jErr_fine h x hx
    · rw [if_neg h0] at h; exact absurd h h0
def jappE (m : Int) (b : List Int) (l : List K.S26) : Int := if jErr l = 0 then appE m b (flatE l) else jErr l
def jappL (m : Int) (b : List Int) (l : List K.S26) : List Int := if jErr l = 0 then appL m b (flatE l) else b
def jappEs (m : Int) (b es : List Int) (l : List K.S26) : List Int := if jappE m b l = 0 then es ++ endsE b.length l else es
theorem flat_len_fine : ∀ {l : List K.S26}, (∀ x ∈ l, Fine x) → (flatE l).length ≤ l.length * 65543
  | [], _ => by simp [flatE]
  | y :: ys, h => by
    rw [flatE_cons, List.length_append, List.length_cons]
    have h1 := entF_le (h y List.mem_cons_self)
    have h2 := flat_len_fine (l := ys) (fun x hx => h x (List.mem_cons_of_mem _ hx))
    omega
/-- b = append(b, ys...): what was written is told. -/
theorem BR.append_ev2 {ops : Array Oper} {rest : List Oper} {o : Oper} {a : Act} {Q : Exit → Act → World → Prop} {w : World} {base : Nat} {v : Value} {xs ys : List Int} {A : Option Addr} {m c : Nat}
    (h : BR w base v xs) (HR : Kd.C (Kd.int .u8) w A m ys) (hgd : o.guard = none) (s x : Operand) (ho : o.op = .call { callee := .builtin .append, args := #[s, x], argTypes := #[27, 27] })
    (hs : a.eval s = v) (hx : a.eval x = .slice A m c) (hbase : base ≤ w.heap.size) (hl : xs.length + m ≤ 140737488355328)
    (k : ∀ v1 w1, BR w1 base v1 (xs ++ ys) → Below base w w1 → w.grownBy w1 v.ownBlock → wpList Try.prog ops Q rest (a.put o.dst v1) w1) : wpList Try.prog ops Q (o :: rest) a w :=
  Kd.R_append_rows (Kd.int .u8) (Rr := (Kd.int .u8).K w) (w0 := w) base hgd s x 27 5 (.int .u8 0) 1 ho Try.underlying27 info_u8 rfl (by decide) (by omega) v xs ys A m c (fun _ => True) (fun _ => False) hs hx h HR (fun _ _ h => h) (fun _ h => h.elim) (fun _ _ => trivial) (Below.refl _ _) hbase (by omega)
    (fun v1 w1 h1 h2 h3 h4 => k v1 w1 h1 h2 h3)
theorem disk_store {w : World} {base B J j : Nat} {v u : Value} {xs : List Int} {s m : Int} (h : DiskS w base B v xs s m) (h1 : J ≠ B) (h2 : some J ≠ v.ownBlock) : DiskS (w.setCell ⟨J, j, none⟩ u) base B v xs s m :=
  { h with
    cells := h.cells.move (Below.heap_setCell _ _ _ _ (by show B ≠ J; omega))
    row := h.row.move fun k hk => Below.heap_setCell _ _ _ _ (fun e => h2 (by rw [hk, e])) }
/-- Rows of the call's own stand behind an act on a disk that was there. -/
theorem DStep.R {α : Type} {d : Kd α} {e base B : Nat} {w w1 : World} {v v' u : Value} {xs : List α} (st : DStep w w1 B v v') (h : d.R e w base (fun _ => True) u xs) (hB : B < base) (hv : ∀ k, v.ownBlock = some k → k < base) : d.R e w1 base (fun _ => True) u xs :=
  Kd.R_mono (Kd.R_move (Kd.R_bound h) (fun k hk => st.block k hk.2.2.1 (by have := hk.2.1; omega) (fun e => by have := hv k e.symm; have := hk.2.1; omega))) (fun _ _ => trivial)
theorem JS.storeE {w : World} {base J D n0 : Nat} {vE v vS : Value} {es zs b : List Int} {s m : Int} (h : JS w base J D vE v es b s m) (hI : IR w n0 vS zs) (hn : J < n0) (hb : base ≤ n0) : JS (w.setCell ⟨J, 1, none⟩ vS) base J D vS v zs b s m := by
  have hI2 : IR (w.setCell ⟨J, 1, none⟩ vS) n0 vS zs := Kd.R_mono (Kd.R_grown (Kd.R_bound hI) (grownBy_set w J 1 vS (World.grownBy.refl w _)) (fun k hk e => by cases e; have := hk.2.1; omega)) (fun _ _ => trivial)
  exact ⟨h.jat.put1 vS, IR.len hI2, fun k hk => ⟨by have := R_ge hI2 k hk; omega, R_typ hI2 k hk⟩, disk_store h.disk h.neD h.neV, h.jge⟩
theorem JS.storeSame {w : World} {base J D : Nat} {vE v : Value} {es b : List Int} {s m : Int} (h : JS w base J D vE v es b s m) : JS (w.setCell ⟨J, 1, none⟩ vE) base J D vE v es b s m := by
  have hne : ∀ k, vE.ownBlock = some k → k ≠ J := fun k hk e => by
    obtain ⟨_, cs, hc⟩ := h.typ k hk
    subst e
    rw [show w.heap[k]? = _ from h.jat] at hc
    cases hc
  obtain ⟨A, c, rfl, hc, hC⟩ := h.row
  exact ⟨h.jat.put1 _, ⟨A, c, rfl, hc, C_typ hC (fun k hk => Below.heap_setCell _ _ _ _ (hne k hk))⟩, fun k hk => ⟨(h.typ k hk).1, by rw [Below.heap_setCell _ _ _ _ (show k ≠ J from hne k hk)]; exact (h.typ k hk).2⟩, disk_store h.disk h.neD h.neV, h.jge⟩
theorem JStep.put {w w1 : World} {J D : Nat} {v v' vE vE' : Value} (h : JStep w w1 J D v v' vE vE') (u uE : Value) (hE : uE.ownBlock = vE.ownBlock ∨ uE.ownBlock = none ∨ ∃ b, uE.ownBlock = some b ∧ w.heap.size ≤ b) : JStep w (w1.setCell ⟨J, 1, none⟩ u) J D v v' vE uE :=
  ⟨h.os, h.tape, h.output, by simpa [World.setCell] using h.size, fun k hk h1 h2 h3 => (Below.heap_setCell _ _ _ _ (by show k ≠ J; exact h1)).trans (h.block k hk h1 h2 h3), h.row, hE⟩
/-- The places that the walk has. -/
def EndsAt (w : World) (n0 i : Nat) (vE vS : Value) (zs : List Int) : Prop := (i = 0 ∧ vS = vE) ∨ IR w n0 vS zs

set_option maxHeartbeats 16000000 in
theorem jappend_is {w : World} {base J D : Nat} {vE v : Value} {es b : List Int} {s m : Int} (h : JS w base J D vE v es b s m) (A0 : Option Addr) (c0 : Nat) (l : List K.S26) (hC : Kd.C K.k26 w A0 l.length l) (hc : l.length ≤ c0) (hl : l.length ≤ 1048576) (hes : es.length ≤ 1048576) :
    Calls Try.prog 76 #[.pointer (some ⟨J, 0, none⟩), .slice A0 l.length c0] w fun e w' => e = .returned (.int .i64 (jappE m b l)) ∧ ∃ vE' v', JS w' base J D vE' v' (jappEs m b es l) (jappL m b l) s m ∧ JStep w w' J D v v' vE vE' := by
  obtain ⟨E, hE⟩ : ∃ E, jErr l = E := ⟨_, rfl⟩
  obtain ⟨R, hR⟩ : ∃ R, jappE m b l = R := ⟨_, rfl⟩
  obtain ⟨RE, hRE⟩ : ∃ RE, jappEs m b es l = RE := ⟨_, rfl⟩
  obtain ⟨RL, hRL⟩ : ∃ RL, jappL m b l = RL := ⟨_, rfl⟩
  rw [hR, hRE, hRL]
  have HE := Lib.hid hE
  have HR := Lib.hid hR
  have HRE := Lib.hid hRE
  have HRL := Lib.hid hRL
  have H := Lib.hid h
  have HC := Lib.hid hC
  have hJw := h.lt
  have hjb := h.jge
  have hbl : b.length ≤ 262144 := by have := h.disk.len; have := h.disk.m1; omega
  have c1 := h.jat.c1
  obtain ⟨AE, cE, rfl, _, _⟩ := h.row
  clear hE hR hRE hRL h hC
  go_enter Try.func76, Try.ntmps76
  go_wp2_with (go_at_call 137; refine (jnone_is H.out).mono ?_; rintro e w' ⟨rfl, rfl⟩)
  go_loopg [5, 6, 20] l.length (fun g s5 s6 s20 wr => ∃ (i : Nat) (vA vS : Value), vA = s5 ∧ vS = s6 ∧ s20 = .int .i64 i ∧ i ≤ l.length ∧ g = l.length - i ∧ Hid (jErr (l.drop i) = E) ∧ Hid (∀ x ∈ l.take i, Fine x) ∧ Hid (BR wr w.heap.size vA (flatE (l.take i))) ∧ Hid (EndsAt wr w.heap.size i (.slice AE es.length cE) vS (es ++ endsE b.length (l.take i))) ∧ Hid (Below w.heap.size w wr))
  case atStart => exact ⟨0, _, _, rfl, rfl, rfl, Nat.zero_le _, rfl, Lib.hid (by rw [List.drop_zero]; exact HE.out), Lib.hid (by intro x hx; simp at hx), Lib.hid (Kd.R_nil _ _ _ _ _), Lib.hid (.inl ⟨rfl, rfl⟩), Lib.hid (Below.refl _ _)⟩
  case round =>
    obtain ⟨i, vA, vS, rfl, rfl, rfl, hi, hg, HEI, HF, HA, HS, HB⟩ := hrel
    obtain ⟨A5, c5, rfl, _, _⟩ := BR.len HA.out
    have hJS := H.out.below HB.out (Nat.le_refl _)
    have HJR := Lib.hid hJS
    obtain ⟨zs, hzs⟩ : ∃ zs, es ++ endsE b.length (l.take i) = zs := ⟨_, rfl⟩
    have hzl : zs.length ≤ 2097152 := by rw [← hzs, List.length_append, endsE_length, List.length_take]; omega
    rw [hzs] at HS
    have hrow : ∃ A6 c6, vS = .slice A6 zs.length c6 ∧ zs.length ≤ c6 ∧ Kd.C (Kd.int .i64) wr A6 zs.length zs := by
      rcases HS.out with ⟨h0, h1⟩ | h1
      · obtain ⟨A, c, e, h3, h4⟩ := hJS.row
        have hz : zs = es := by rw [← hzs, h0]; simp [endsE]
        rw [hz]
        exact ⟨A, c, h1.trans e, h3, h4⟩
      · exact IR.len h1
    obtain ⟨A6, c6, rfl, hc6, hC6⟩ := hrow
    have HC6 := Lib.hid hC6
    have HZS := Lib.hid hzs
    have cD := hJS.jat.c0
    clear hJS hzs hC6
    by_cases hlt : i < l.length
    · have hCi := Kd.C_below HC.out HB.out
      obtain ⟨ad, A8, c8, ea, a0, a1, a2, a3, a4, a5, a6, a7, a8, a9, l8, g8⟩ := K.at_T26 hCi (i : Int) (by omega) (by omega)
      subst ea
      have hrd : K.rd_T26 l (i : Int) = l[i] := by unfold K.rd_T26; rw [Int.toNat_natCast, List.getD_eq_getElem?_getD, List.getElem?_eq_getElem hlt]; rfl
      have hdr : l.drop i = l[i] :: l.drop (i + 1) := List.drop_eq_getElem_cons hlt
      have htk : l.take (i + 1) = l.take i ++ [l[i]] := List.take_succ_eq_append_getElem hlt
      have hEI := HEI.out
      rw [hdr, jErr] at hEI
      rw [hrd] at a0 a1 a2 a3 a4 a5 a6 a7 a8 a9 l8 g8
      rw [Int.toNat_natCast] at a0 a1 a2 a3 a4 a5 a6 a7 a8 a9
      generalize l[i] = x at hEI htk a0 a1 a2 a3 a4 a5 a6 a7 a8 a9 l8 g8
      have HTK := Lib.hid htk
      clear hrd hdr HEI hCi htk
      have hbx : Below wr.heap.size wr (wr.alloc (entO x A8 c8)) := (Below.refl _ _).alloc (Nat.le_refl _) _
      have HD := Lib.hid (frame_is x A8 c8 (wr.alloc (entO x A8 c8)) (Kd.C_below g8 hbx) l8)
      have HBX := Lib.hid hbx
      have HEI := Lib.hid hEI
      clear hbx g8 hEI
      by_cases h0 : frameErr x = 0
      · have hD := HD.out
        rw [if_pos h0, h0] at hD
        have HD2 := Lib.hid hD
        have HN : Hid (jErr (l.drop (i + 1)) = E) := Lib.hid (by have := HEI.out; rwa [if_pos h0] at this)
        have HF2 : Hid (∀ y ∈ l.take (i + 1), Fine y) := Lib.hid (by
          rw [HTK.out]
          intro y hy
          rcases List.mem_append.1 hy with hy | hy
          · exact HF.out y hy
          · rw [List.mem_singleton.1 hy]; exact frameErr_fine.1 h0)
        obtain ⟨fl, hfl⟩ : ∃ fl, flatE (l.take i) = fl := ⟨_, rfl⟩
        obtain ⟨al, hal⟩ : ∃ al, flatE (l.take (i + 1)) = al := ⟨_, rfl⟩
        have hal2 : al = fl ++ entF x := by rw [← hal, ← hfl, HTK.out, flatE_snoc]
        have hall : al.length ≤ 137438953472 := by
          have h1 := flat_len_fine HF2.out
          rw [hal, List.length_take] at h1
          have : min (i + 1) l.length ≤ 1048576 := by omega
          have := Nat.mul_le_mul_right 65543 this
          omega
        have hfll : fl.length + (entF x).length ≤ 137438953472 := by rw [hal2, List.length_append] at hall; exact hall
        rw [hfl] at HA ⊢
        have HAL := Lib.hid hal
        have HAL2 := Lib.hid hal2.symm
        clear HD HEI h0 hD hal hal2 hfl
        obtain ⟨fx, hfx⟩ : ∃ fx, entF x = fx := ⟨_, rfl⟩
        rw [hfx] at HD2 HAL2 hfll
        clear hfx
        go_upto_region 12 with (first
          | (go_at_call 139; refine HD2.out.mono ?_; rintro e w2 ⟨v2, rfl, hr, hb⟩; obtain ⟨A2, k2, rfl, hk2, hC2⟩ := BR.len hr; have HC2 := Lib.hid hC2; have HB2 := Lib.hid (HBX.out.trans (hb.mono HBX.out.size)); clear hr hb hC2 hk2)
          | (at_builtin; refine BR.append_ev2 (w := w2) (base := w.heap.size) (Kd.R_below HA.out HB2.out) HC2.out rfl (.tmp 32) (.tmp 33) rfl rfl rfl (Nat.le_trans HB.out.size HB2.out.size) (by omega) ?_; intro v3 w3 hr3 hb3 hg3; rw [HAL2.out] at hr3; obtain ⟨A3, k3, rfl, _, _⟩ := BR.len hr3; have HR3 := Lib.hid hr3; have HB3 := Lib.hid ((HB.out.trans (HB2.out.mono HB.out.size)).trans hb3); have HG3 := Lib.hid hg3; clear hr3 hb3 hg3))
        have HTA := Lib.hid (R_typ (Kd.R_below HA.out HB2.out))
        have HGE := Lib.hid (R_ge HA.out)
        have hm3 : ∀ k, k < wr.heap.size → (∀ cs, wr.heap[k]? ≠ some (.cells cs 5 (0, 0))) → w3.heap[k]? = wr.heap[k]? := fun k hk hn => by
          have h1 := HB2.out.block k hk
          refine (HG3.out.block k (Nat.lt_of_lt_of_le hk HB2.out.size) (fun e => ?_)).trans h1
          obtain ⟨cs, hcs⟩ := HTA.out k e.symm
          exact hn cs (by rw [← h1]; exact hcs)
        have hJ3 := (H.out.below HB3.out (Nat.le_refl _))
        have HJ3 := Lib.hid hJ3
        have HC63 : Hid (Kd.C (Kd.int .i64) w3 A6 zs.length zs) := Lib.hid (by
          rcases HS.out with ⟨h0, h1⟩ | h1
          · obtain ⟨A, c, e, h3, h4⟩ := hJ3.row
            have hz : zs = es := by rw [← HZS.out, h0]; simp [endsE]
            rw [hz] at h1 ⊢
            cases h1
            cases e
            exact h4
          · have h2 : IR w3 w.heap.size (.slice A6 zs.length c6) zs := R_typed (Kd.R_below h1 HB2.out) (t := 5) (by decide) HG3.out HTA.out
            obtain ⟨A, c, e, h3, h4⟩ := IR.len h2
            cases e
            exact h4)
        have hbd : Below w3.heap.size w3 w3.drew := below_drew1 (Below.refl _ _)
        have HJ0 := Lib.hid (hJ3.below hbd (Nat.le_refl _))
        have HC0 := Lib.hid (Kd.C_below HC63.out hbd)
        have HR0 := Lib.hid (Kd.R_below HR3.out hbd)
        have HB0 := Lib.hid (HB3.out.trans (hbd.mono HB3.out.size))
        clear hm3 hJ3 hbd a0 a1 a2 a3 a4 a5 a6 a7 a8 a9 cD HC6 HC2 HD2 HA HS HBX
        have hwr : wrap64 ((b.length : Int) + (al.length : Int)) = (b.length : Int) + (al.length : Int) := by unfold wrap64; omega
        refine start_ (n := 17) (S := fun w' => w'.cell? ⟨J, 0, none⟩ = some (.pointer (some ⟨D, 0, none⟩))) (ds := []) #[false, false, false, false, false, false, false, false, false, false, false, false, false, false, false, false, false] (by kernel_rfl) rfl rfl HJ0.out.jat.c0 (fun hHeld => ?_); refine with_tabW jaR12.tab jaR12.bits (fun HT_ HW_ => ?_)
        obtain ⟨WD, hWD⟩ : ∃ X, w3.drew = X := ⟨_, rfl⟩
        rw [hWD] at hHeld HJ0 HC0 HR0 HB0 ⊢
        clear hWD
        refine pure_ (i := 0) (N := (some 35)) (v := ?_) (a' := ?_) #[true, false, false, false, false, false, false, false, false, false, false, false, false, false, false, false, false] rfl rfl (any_of HT_.out (by kernel_rfl)) (fun _ _ _ h => h) (Or.inl ⟨by rfl, ?_⟩) ?_ ?_
        rotate_left
        · intro w'
          go_simp
          with_reducible rfl
        rotate_left
        · simp only [Act.put, List.setIfInBounds_toArray, List.set_cons_zero, List.set_cons_succ, i64_w, i32_w]
          rfl
        refine pure_ (i := 1) (N := (some 36)) (v := ?_) (a' := ?_) #[true, true, false, false, false, false, false, false, false, false, false, false, false, false, false, false, false] rfl rfl (any_of HT_.out (by kernel_rfl)) (fun _ _ _ h => h) (Or.inl ⟨by rfl, ?_⟩) ?_ ?_
        rotate_left
        · intro w'
          go_simp
          with_reducible rfl
        rotate_left
        · simp only [Act.put, List.setIfInBounds_toArray, List.set_cons_zero, List.set_cons_succ, i64_w, i32_w]
          rfl
        refine pure_ (i := 2) (N := (some 37)) (v := ?_) (a' := ?_) #[true, true, true, false, false, false, false, false, false, false, false, false, false, false, false, false, false] rfl rfl (any_of HT_.out (by kernel_rfl)) (fun _ _ _ h => h) (Or.inl ⟨by rfl, ?_⟩) ?_ ?_
        rotate_left
        · intro w'
          go_simp
          with_reducible rfl
        rotate_left
        · simp only [Act.put, List.setIfInBounds_toArray, List.set_cons_zero, List.set_cons_succ, i64_w, i32_w]
          rfl
        refine pure_ (i := 3) (N := (some 38)) (v := ?_) (a' := ?_) #[true, true, true, true, false, false, false, false, false, false, false, false, false, false, false, false, false] rfl rfl (any_of HT_.out (by kernel_rfl)) (fun _ _ _ h => h) (Or.inl ⟨by rfl, ?_⟩) ?_ ?_
        rotate_left
        · intro w'
          go_simp
          with_reducible rfl
        rotate_left
        · simp only [Act.put, List.setIfInBounds_toArray, List.set_cons_zero, List.set_cons_succ, i64_w, i32_w]
          rfl
        refine pure_ (i := 4) (N := (some 39)) (v := ?_) (a' := ?_) #[true, true, true, true, true, false, false, false, false, false, false, false, false, false, false, false, false] rfl rfl (any_of HT_.out (by kernel_rfl)) (fun _ _ _ h => h) (Or.inl ⟨by rfl, ?_⟩) ?_ ?_
        rotate_left
        · intro w'
          go_simp
          with_reducible rfl
        rotate_left
        · simp only [Act.put, List.setIfInBounds_toArray, List.set_cons_zero, List.set_cons_succ, i64_w, i32_w]
          rfl
        refine pure_ (i := 5) (N := (some 40)) (v := ?_) (a' := ?_) #[true, true, true, true, true, true, false, false, false, false, false, false, false, false, false, false, false] rfl rfl (any_of HT_.out (by kernel_rfl)) (fun _ _ _ h => h) (Or.inl ⟨by rfl, ?_⟩) ?_ ?_
        rotate_left
        · intro w'
          go_simp
          with_reducible rfl
        rotate_left
        · simp only [Act.put, List.setIfInBounds_toArray, List.set_cons_zero, List.set_cons_succ, i64_w, i32_w]
          rfl
        refine pure_ (i := 6) (N := (some 41)) (v := ?_) (a' := ?_) #[true, true, true, true, true, true, true, false, false, false, false, false, false, false, false, false, false] rfl rfl (any_of HT_.out (by kernel_rfl)) (fun _ _ _ h => h) (Or.inl ⟨by rfl, ?_⟩) ?_ ?_
        rotate_left
        · intro w'
          go_simp
          with_reducible rfl
        rotate_left
        · simp only [Act.put, List.setIfInBounds_toArray, List.set_cons_zero, List.set_cons_succ, i64_w, i32_w]
          rfl
        refine pure_ (i := 7) (N := (some 42)) (v := ?_) (a' := ?_) #[true, true, true, true, true, true, true, true, false, false, false, false, false, false, false, false, false] rfl rfl (any_of HT_.out (by kernel_rfl)) (fun _ _ _ h => h) (Or.inl ⟨by rfl, ?_⟩) ?_ ?_
        rotate_left
        · intro w'
          go_simp
          with_reducible rfl
        rotate_left
        · simp only [Act.put, List.setIfInBounds_toArray, List.set_cons_zero, List.set_cons_succ, i64_w, i32_w]
          rfl
        refine pure_ (i := 8) (N := (some 43)) (v := ?_) (a' := ?_) #[true, true, true, true, true, true, true, true, true, false, false, false, false, false, false, false, false] rfl rfl (any_of HT_.out (by kernel_rfl)) (fun _ _ _ h => h) (Or.inl ⟨by rfl, ?_⟩) ?_ ?_
        rotate_left
        · intro w'
          go_simp
          with_reducible rfl
        rotate_left
        · simp only [Act.put, List.setIfInBounds_toArray, List.set_cons_zero, List.set_cons_succ, i64_w, i32_w]
          rfl
        refine pure_ (i := 11) (N := (some 46)) (v := ?_) (a' := ?_) #[true, true, true, true, true, true, true, true, true, false, false, true, false, false, false, false, false] rfl rfl (any_of HT_.out (by kernel_rfl)) (fun _ _ _ h => h) (Or.inl ⟨by rfl, ?_⟩) ?_ ?_
        rotate_left
        · intro w'
          go_simp
          with_reducible rfl
        rotate_left
        · simp only [Act.put, List.setIfInBounds_toArray, List.set_cons_zero, List.set_cons_succ, i64_w, i32_w]
          rfl
        refine pure_ (i := 12) (N := (some 47)) (v := ?_) (a' := ?_) #[true, true, true, true, true, true, true, true, true, false, false, true, true, false, false, false, false] rfl rfl (any_of HT_.out (by kernel_rfl)) (fun _ _ _ h => h) (Or.inl ⟨by rfl, ?_⟩) ?_ ?_
        rotate_left
        · intro w'
          go_simp
          with_reducible rfl
        rotate_left
        · simp only [Act.put, List.setIfInBounds_toArray, List.set_cons_zero, List.set_cons_succ, i64_w, i32_w]
          rfl
        refine take_ (i := 9) (N := (some 44)) (v := ?_) (a' := ?_) #[true, true, true, true, true, true, true, true, true, true, false, true, true, false, false, false, false] rfl rfl (take_ofW HT_.out HW_.out (by kernel_rfl)) (fun _ _ _ h => h) (Or.inl ⟨by rfl, ?_⟩) hHeld ?_ ?_
        rotate_left
        · rintro w' s0
          go_simp
          with_reducible rfl
        rotate_left
        · simp only [Act.put, List.setIfInBounds_toArray, List.set_cons_zero, List.set_cons_succ, i64_w, i32_w]
          rfl
        refine one_ (i := 10) (N := (some 45)) #[true, true, true, true, true, true, true, true, true, true, true, true, true, false, false, false, false] rfl rfl (one_of HT_.out (by kernel_rfl)) (by decide) (fun K hK => ?_)
        refine goes_ Try.func39 (by kernel_rfl) rfl #[.pointer (some ⟨D, 0, none⟩)] (by rfl) rfl rfl (by (try simp only [List.map_toArray, List.map_cons, List.map_nil]); first | done | rfl) ?_
        refine (len_is HJ0.out.disk).mono ?_
        rintro e w' ⟨rfl, rfl⟩
        refine ⟨_, rfl, ?_⟩
        refine hK.out _ _ HJ0.out.jat.c0 (fun hHeld => ?_)
        clear hK K
        refine norm_ (a' := ?_) ?_ ?_
        rotate_left
        · show Act.put _ (some 45) _ = _
          simp only [Act.put, List.setIfInBounds_toArray, List.set_cons_zero, List.set_cons_succ, i64_w, i32_w]
          rfl
        refine pure_ (i := 13) (N := (some 48)) (v := ?_) (a' := ?_) #[true, true, true, true, true, true, true, true, true, true, true, true, true, true, false, false, false] rfl rfl (any_of HT_.out (by kernel_rfl)) (fun _ _ _ h => h) (Or.inl ⟨by rfl, ?_⟩) ?_ ?_
        rotate_left
        · intro w'
          go_simp
          with_reducible rfl
        rotate_left
        · simp only [Act.put, List.setIfInBounds_toArray, List.set_cons_zero, List.set_cons_succ, i64_w, i32_w]
          rfl
        refine one_ (i := 14) (N := (some 49)) #[true, true, true, true, true, true, true, true, true, true, true, true, true, true, true, false, false] rfl rfl (one_of HT_.out (by kernel_rfl)) (by decide) (fun K hK => ?_)
        refine value_ (w1 := WD.alloc (.cells #[.int .i64 ((b.length : Int) + (al.length : Int))] 3)) (v := .slice (some ⟨WD.heap.size, 0, none⟩) 1 1) (by rfl) rfl ?_ ?_
        · go_simp
          first | done | rfl | rw [hwr]
        refine hK.out _ _ (HJ0.out.below ((Below.refl WD.heap.size WD).alloc (Nat.le_refl _) (.cells #[.int .i64 ((b.length : Int) + (al.length : Int))] 3)) (Nat.le_refl _)).jat.c0 (fun hHeld => ?_)
        clear hK K
        refine norm_ (a' := ?_) ?_ ?_
        rotate_left
        · show Act.put _ (some 49) _ = _
          simp only [Act.put, List.setIfInBounds_toArray, List.set_cons_zero, List.set_cons_succ, i64_w, i32_w]
          rfl
        refine one_ (i := 15) (N := (some 50)) #[true, true, true, true, true, true, true, true, true, true, true, true, true, true, true, true, false] rfl rfl (one_of HT_.out (by kernel_rfl)) (by decide) (fun K hK => ?_)
        obtain ⟨v5, w5, hrun, hI, hB5⟩ := IR.full WD 42 A6 zs ((b.length : Int) + (al.length : Int)) HC0.out (by omega)
        obtain ⟨z2, hz2⟩ : ∃ z2, zs ++ [((b.length : Int) + (al.length : Int))] = z2 := ⟨_, rfl⟩
        rw [hz2] at hI
        have HZ2 := Lib.hid hz2
        clear hz2
        obtain ⟨A7, k7, rfl, _, _⟩ := IR.len hI
        refine value_ (w1 := w5) (v := _) (by rfl) rfl (append_value (s := .tmp 40) (x := .tmp 49) rfl rfl rfl hrun) ?_
        have HR5 := Lib.hid (Kd.R_below HR0.out hB5)
        refine hK.out _ _ (HJ0.out.below hB5 (Nat.le_refl _)).jat.c0 (fun hHeld => ?_)
        clear hK K
        refine norm_ (a' := ?_) ?_ ?_
        rotate_left
        · show Act.put _ (some 50) _ = _
          simp only [Act.put, List.setIfInBounds_toArray, List.set_cons_zero, List.set_cons_succ, i64_w, i32_w]
          rfl
        refine pure_ (i := 16) (N := (some 6)) (v := ?_) (a' := ?_) #[true, true, true, true, true, true, true, true, true, true, true, true, true, true, true, true, true] rfl rfl (any_of HT_.out (by kernel_rfl)) (fun _ _ _ h => h) (Or.inl ⟨by rfl, ?_⟩) ?_ ?_
        rotate_left
        · intro w'
          go_simp
          with_reducible rfl
        rotate_left
        · simp only [Act.put, List.setIfInBounds_toArray, List.set_cons_zero, List.set_cons_succ, i64_w, i32_w]
          rfl
        refine done_ (done_of HT_.out (by kernel_rfl)) ?_
        have HIR := Lib.hid hI
        clear hwr
        have hB5 := HB0.out.trans (hB5.mono HB0.out.size)
        have HB5 := Lib.hid hB5
        clear hI hB5 hrun
        go_wp2
        go_roundg (l.length - (i + 1))
        case measure => omega
        case rel => exact ⟨i + 1, _, _, rfl, rfl, by go_num, by omega, rfl, HN, HF2, Lib.hid (by rw [HAL.out]; exact HR5.out), Lib.hid (.inr (by rw [HTK.out, endsE_snoc, ← List.append_assoc, HZS.out, ← HTK.out, HAL.out, Int.natCast_add, HZ2.out]; exact Kd.R_lower HIR.out HB0.out.size)), HB5⟩
      · have hD := HD.out
        rw [if_neg h0] at hD
        have hN : frameErr x = E := by have := HEI.out; rwa [if_neg h0] at this
        rw [hN] at hD h0
        have t0 : (E != 0) = true := by simpa using h0
        have hRE : R = E := by rw [← HR.out]; unfold jappE; rw [HE.out, if_neg h0]
        have hRL : RL = b := by rw [← HRL.out]; unfold jappL; rw [HE.out, if_neg h0]
        have hREs : RE = es := by rw [← HRE.out]; unfold jappEs; rw [HR.out, hRE, if_neg h0]
        subst hRE hRL hREs
        have HD2 := Lib.hid hD
        clear HD HEI hD hN h0
        go_wp2_with (go_at_call 139; refine HD2.out.mono ?_; rintro e w2 ⟨v2, rfl, hr, hb⟩; obtain ⟨A2, k2, rfl, hk2, hC2⟩ := BR.len hr; have HB2 := Lib.hid (HB.out.trans ((HBX.out.trans (hb.mono HBX.out.size)).mono HB.out.size)); clear hr hb hC2 hk2)
        go_ret
        exact ⟨rfl, _, _, H.out.below HB2.out (Nat.le_refl _), JStep.of_below _ _ _ _ HB2.out⟩
    · obtain rfl : i = l.length := by omega
      have hE0 : E = 0 := by have := HEI.out; rw [List.drop_length] at this; exact this.symm
      subst hE0
      rw [List.take_length] at HA ⊢
      have hzs := HZS.out
      rw [List.take_length] at hzs
      have hRE : R = appE m b (flatE l) := by rw [← HR.out]; unfold jappE; rw [HE.out, if_pos rfl]
      have hRL : RL = appL m b (flatE l) := by rw [← HRL.out]; unfold jappL; rw [HE.out, if_pos rfl]
      have hREs : RE = if appE m b (flatE l) = 0 then zs else es := by rw [← HRE.out, ← hzs]; unfold jappEs; rw [HR.out, hRE]
      obtain ⟨A5', c5', e5, _, hC5⟩ := BR.len HA.out
      obtain ⟨fl, hfl⟩ : ∃ fl, flatE l = fl := ⟨_, rfl⟩
      rw [hfl] at HA hRE hRL hREs e5 hC5 ⊢
      cases e5
      have HAP := Lib.hid (append_any HJR.out.disk A5 c5 hC5)
      rw [← hRE, ← hRL] at HAP
      rw [← hRE] at hREs
      have HRZ := Lib.hid hREs
      clear hzs hRE hRL hREs hC5 hfl
      by_cases hR0 : R = 0
      · have hz : RE = zs := by rw [HRZ.out, if_pos hR0]
        subst hR0
        have HRZ2 := Lib.hid hz
        clear HRZ hz
        go_upto_region 17 with (go_at_call 29; refine HAP.out.mono ?_; rintro e w2 ⟨rfl, v2, hd, hst⟩; have HJ2 := Lib.hid (HJR.out.acted hst hd); have HST := Lib.hid hst; clear hd hst)
        have cf := HJ2.out.jat.f 1
        have cc := HJ2.out.jat.c1
        have hfin : JS (w2.setCell ⟨J, 1, none⟩ (.slice A6 zs.length c6)) base J D (.slice A6 zs.length c6) v2 RE RL s m ∧ ((Value.slice A6 zs.length c6).ownBlock = (Value.slice AE es.length cE).ownBlock ∨ (Value.slice A6 zs.length c6).ownBlock = none ∨ ∃ b, (Value.slice A6 zs.length c6).ownBlock = some b ∧ w.heap.size ≤ b) := by
          rw [HRZ2.out]
          rcases HS.out with ⟨h0, h1⟩ | h1
          · have hz : zs = es := by rw [← HZS.out, h0]; simp [endsE]
            rw [hz] at h1 ⊢
            rw [h1]
            exact ⟨HJ2.out.storeSame, .inl rfl⟩
          · have hI : IR w2 w.heap.size (.slice A6 zs.length c6) zs := HST.out.R h1 H.out.disk.cells.lt (fun k hk => (H.out.disk.row.block hk).2.1)
            refine ⟨HJ2.out.storeE hI hJw (by omega), ?_⟩
            rcases hq : (Value.slice A6 zs.length c6).ownBlock with _ | k
            · exact .inr (.inl rfl)
            · exact .inr (.inr ⟨k, rfl, R_ge hI k hq⟩)
        have HFIN := Lib.hid hfin
        clear hfin
        go_wp2
        go_ret
        exact ⟨rfl, _, _, HFIN.out.1, ((JStep.of_below J D _ _ HB.out).trans (JStep.of_disk J _ HST.out)).put _ _ HFIN.out.2⟩
      · have t0 : (R != 0) = true := by simpa using hR0
        have hz : RE = es := by rw [HRZ.out, if_neg hR0]
        have HRZ2 := Lib.hid hz
        clear HRZ hz hR0
        go_wp2_with (go_at_call 29; refine HAP.out.mono ?_; rintro e w2 ⟨rfl, v2, hd, hst⟩; have HJ2 := Lib.hid (HJR.out.acted hst hd); have HST := Lib.hid hst; clear hd hst)
        go_ret
        exact ⟨rfl, _, _, by rw [HRZ2.out]; exact HJ2.out, (JStep.of_below J D _ _ HB.out).trans (JStep.of_disk J _ HST.out)⟩
end Go.Proofs.Ytmbnjgnmblgjoaa.Man
end

-- Ent18
section
/- Law 18's own comparisons at equal arguments: true. Printed by wip/tools/gen_ent18.py. -/

namespace Go.Proofs.Ytmbnjgnmblgjoaa.Man
open Go.RowKit Go.Proofs.YtmbnjgnmblgjoaaW.PrintWords Go.Proofs.YtmbnjgnmblgjoaaW.PrintLast Go.Proofs.YtmbnjgnmblgjoaaW.PrintMore
set_option linter.unusedVariables false
set_option linter.unusedSimpArgs false
set_option maxRecDepth 100000
attribute [local go_sem high] K.eqA111

set_option maxHeartbeats 4000000 in
theorem alike18_yes (w : World) (A B : Option Addr) (c d : Nat) (l : List K.S111) (hr : Kd.C K.k111 w A l.length l) (hr' : Kd.C K.k111 w B l.length l) :
    Calls Try.prog 158 #[.slice A l.length c, .slice B l.length d] w fun e w' => e = .returned (.bool true) ∧ Below w.heap.size w w' := by
  have hl : l.length ≤ 9223372036854775807 := hr.2.1
  have HR := Lib.hid hr
  have HR' := Lib.hid hr'
  clear hr hr'
  go_enter Try.func158, Try.ntmps158
  go_wp2
  go_loopg [5] l.length (fun g s5 wr => ∃ i m : Nat, s5 = .int .i64 i ∧ i ≤ l.length ∧ g = l.length - i ∧ wr = w.drewN m)
  case atStart => exact ⟨0, 0, rfl, Nat.zero_le _, rfl, rfl⟩
  case round =>
    obtain ⟨i, m, rfl, hi, hg, rfl⟩ := hrel
    by_cases hlt : i < l.length
    · obtain ⟨ad, e1, a0, a1, a2, a3⟩ := K.at_T111 HR.out (i : Int) (by omega) (by omega)
      obtain ⟨ad', e2, b0, b1, b2, b3⟩ := K.at_T111 HR'.out (i : Int) (by omega) (by omega)
      subst e1; subst e2
      rw [Int.toNat_natCast] at a0 a1 a2 a3 b0 b1 b2 b3
      generalize K.rd_T111 l i = x at a0 a1 a2 a3 b0 b1 b2 b3
      go_wp2
      go_quiet (fail)
      go_wp2
      go_roundg (l.length - (i + 1))
      case measure => omega
      case rel => exact ⟨i + 1, _, by go_num, by omega, rfl, rfl⟩
    · obtain rfl : i = l.length := by omega
      go_wp2
      go_ret
      exact ⟨rfl, pw_below_drewN (Below.refl _ _) m⟩
set_option maxHeartbeats 4000000 in
theorem twin18_yes (w : World) (A B : Option Addr) (c d : Nat) (x : K.S26) (hr : Kd.C K.k111 w A x.f2.f6.length x.f2.f6) (hr' : Kd.C K.k111 w B x.f2.f6.length x.f2.f6) :
    Calls Try.prog 136 #[stepV x A c, stepV x B d] w fun e w' => e = .returned (.bool true) ∧ Below w.heap.size w w' := by
  have HG := Lib.hid (fun (W : World) (hb : Below w.heap.size w W) => alike18_yes W A B c d x.f2.f6 (Kd.C_below hr hb) (Kd.C_below hr' hb))
  clear hr hr'
  unfold stepV
  go_enter Try.func136, Try.ntmps136
  go_wp2_with (go_at_call 158; refine (HG.out _ (((Below.refl _ _).alloc (Nat.le_refl _) _).alloc (by simp) _)).mono ?_; rintro e w1 ⟨rfl, hb⟩; have HB := Lib.hid hb; clear hb)
  go_ret
  exact ⟨rfl, (((Below.refl _ _).alloc (Nat.le_refl _) _).alloc (by simp) _).trans (HB.out.mono (by simp; omega))⟩
def ent18R6.T : Bool × List (List Nat × List Nat) := (true, [([], []), ([], []), ([0, 1], [0, 1]), ([2], [2]), ([3], [3]), ([], []), ([], []), ([5, 6], [5, 6]), ([7], [7]), ([8], [8]), ([4, 9], [4, 9]), ([10], [10]), ([11], [11]), ([11], [11]), ([12, 13, 11], [11, 12, 13]), ([14, 11], [11, 14]), ([15, 11], [11, 15]), ([11], [11]), ([11], [11]), ([17, 18, 11], [11, 17, 18]), ([19, 11], [11, 19]), ([20, 11], [11, 20]), ([16, 21, 11], [11, 16, 21]), ([11, 22], [11, 22]), ([23, 11], [23]), ([24], [24]), ([24], [24]), ([25, 26, 24], [24, 25, 26]), ([27, 24], [24, 27]), ([28, 24], [24, 28]), ([24], [24]), ([24], [24]), ([30, 31, 24], [24, 30, 31]), ([32, 24], [24, 32]), ([33, 24], [24, 33]), ([29, 34, 24, 24], [24, 29, 34]), ([35, 24], [24, 35]), ([24, 36], [24, 36])])
def ent18R6.B : List Nat := [0, 0, 3, 7, 15, 0, 0, 96, 224, 480, 1023, 2047, 4095, 4095, 16383, 32767, 65535, 4095, 4095, 397311, 921599, 1970175, 4194303, 8388607, 16777215, 33554431, 33554431, 134217727, 268435455, 536870911, 33554431, 33554431, 3254779903, 7549747199, 16139681791, 34359738367, 68719476735, 137438953471]
theorem ent18R6.tab : rtab .any (opsOf Try.f73 6) = ent18R6.T := by kernel_rfl
theorem ent18R6.bits : waitsOk ent18R6.T.2 ent18R6.B = true := by kernel_rfl

set_option maxHeartbeats 16000000 in
theorem entries18_yes (w : World) (A B : Option Addr) (c d : Nat) (l : List K.S26) (hr : Kd.C K.k26 w A l.length l) (hr' : Kd.C K.k26 w B l.length l) :
    Calls Try.prog 73 #[.slice A l.length c, .slice B l.length d] w fun e w' => e = .returned (.bool true) ∧ Below w.heap.size w w' := by
  have hl : l.length ≤ 9223372036854775807 := hr.2.1
  have HR := Lib.hid hr
  have HR' := Lib.hid hr'
  clear hr hr'
  go_enter Try.func73, Try.ntmps73
  go_wp2
  go_loopg [5] l.length (fun g s5 wr => ∃ i : Nat, s5 = .int .i64 i ∧ i ≤ l.length ∧ g = l.length - i ∧ Hid (Below w.heap.size w wr))
  case atStart => exact ⟨0, rfl, Nat.zero_le _, rfl, Lib.hid (Below.refl _ _)⟩
  case round =>
    obtain ⟨i, rfl, hi, hg, HB0⟩ := hrel
    by_cases hlt : i < l.length
    · have hb1 : Below w.heap.size w wr.drew := below_drew1 HB0.out
      obtain ⟨ad, A8, c8, e1, sa, _, ca⟩ := EC.at (Kd.C_below HR.out hb1) i hlt
      obtain ⟨bd, B8, d8, e2, sb, _, cb⟩ := EC.at (Kd.C_below HR'.out hb1) i hlt
      subst e1; subst e2
      generalize K.rd_T26 l i = x at sa sb ca cb
      have HCA := Lib.hid ca
      have HCB := Lib.hid cb
      have HB := Lib.hid hb1
      have hS := And.intro sa sb
      clear ca cb hb1 sa sb
      go_upto_region 6 with (fail)
      refine start_ (n := 38) (S := fun w' => EC w' (ad.add (i * 10)) x A8 c8 ∧ EC w' (bd.add (i * 10)) x B8 d8) (ds := []) #[false, false, false, false, false, false, false, false, false, false, false, false, false, false, false, false, false, false, false, false, false, false, false, false, false, false, false, false, false, false, false, false, false, false, false, false, false, false] (by kernel_rfl) rfl rfl hS (fun hHeld => ?_); refine with_tabW ent18R6.tab ent18R6.bits (fun HT_ HW_ => ?_)
      refine pure_ (i := 0) (N := (some 17)) (v := ?_) (a' := ?_) #[true, false, false, false, false, false, false, false, false, false, false, false, false, false, false, false, false, false, false, false, false, false, false, false, false, false, false, false, false, false, false, false, false, false, false, false, false, false] rfl rfl (any_of HT_.out (by kernel_rfl)) (fun _ _ _ h => h) (Or.inl ⟨by rfl, ?_⟩) ?_ ?_
      rotate_left
      · intro w'
        go_simp
        with_reducible rfl
      rotate_left
      · simp only [Act.put, List.setIfInBounds_toArray, List.set_cons_zero, List.set_cons_succ, i64_w, i32_w]
        rfl
      refine pure_ (i := 1) (N := (some 18)) (v := ?_) (a' := ?_) #[true, true, false, false, false, false, false, false, false, false, false, false, false, false, false, false, false, false, false, false, false, false, false, false, false, false, false, false, false, false, false, false, false, false, false, false, false, false] rfl rfl (any_of HT_.out (by kernel_rfl)) (fun _ _ _ h => h) (Or.inl ⟨by rfl, ?_⟩) ?_ ?_
      rotate_left
      · intro w'
        go_simp
        with_reducible rfl
      rotate_left
      · simp only [Act.put, List.setIfInBounds_toArray, List.set_cons_zero, List.set_cons_succ, i64_w, i32_w]
        rfl
      refine pure_ (i := 2) (N := (some 19)) (v := ?_) (a' := ?_) #[true, true, true, false, false, false, false, false, false, false, false, false, false, false, false, false, false, false, false, false, false, false, false, false, false, false, false, false, false, false, false, false, false, false, false, false, false, false] rfl rfl (any_of HT_.out (by kernel_rfl)) (fun _ _ _ h => h) (Or.inl ⟨by rfl, ?_⟩) ?_ ?_
      rotate_left
      · intro w'
        go_simp
        with_reducible rfl
      rotate_left
      · simp only [Act.put, List.setIfInBounds_toArray, List.set_cons_zero, List.set_cons_succ, i64_w, i32_w]
        rfl
      refine pure_ (i := 3) (N := (some 20)) (v := ?_) (a' := ?_) #[true, true, true, true, false, false, false, false, false, false, false, false, false, false, false, false, false, false, false, false, false, false, false, false, false, false, false, false, false, false, false, false, false, false, false, false, false, false] rfl rfl (any_of HT_.out (by kernel_rfl)) (fun _ _ _ h => h) (Or.inl ⟨by rfl, ?_⟩) ?_ ?_
      rotate_left
      · intro w'
        go_simp
        with_reducible rfl
      rotate_left
      · simp only [Act.put, List.setIfInBounds_toArray, List.set_cons_zero, List.set_cons_succ, i64_w, i32_w]
        rfl
      refine pure_ (i := 5) (N := (some 22)) (v := ?_) (a' := ?_) #[true, true, true, true, false, true, false, false, false, false, false, false, false, false, false, false, false, false, false, false, false, false, false, false, false, false, false, false, false, false, false, false, false, false, false, false, false, false] rfl rfl (any_of HT_.out (by kernel_rfl)) (fun _ _ _ h => h) (Or.inl ⟨by rfl, ?_⟩) ?_ ?_
      rotate_left
      · intro w'
        go_simp
        with_reducible rfl
      rotate_left
      · simp only [Act.put, List.setIfInBounds_toArray, List.set_cons_zero, List.set_cons_succ, i64_w, i32_w]
        rfl
      refine pure_ (i := 6) (N := (some 23)) (v := ?_) (a' := ?_) #[true, true, true, true, false, true, true, false, false, false, false, false, false, false, false, false, false, false, false, false, false, false, false, false, false, false, false, false, false, false, false, false, false, false, false, false, false, false] rfl rfl (any_of HT_.out (by kernel_rfl)) (fun _ _ _ h => h) (Or.inl ⟨by rfl, ?_⟩) ?_ ?_
      rotate_left
      · intro w'
        go_simp
        with_reducible rfl
      rotate_left
      · simp only [Act.put, List.setIfInBounds_toArray, List.set_cons_zero, List.set_cons_succ, i64_w, i32_w]
        rfl
      refine pure_ (i := 7) (N := (some 24)) (v := ?_) (a' := ?_) #[true, true, true, true, false, true, true, true, false, false, false, false, false, false, false, false, false, false, false, false, false, false, false, false, false, false, false, false, false, false, false, false, false, false, false, false, false, false] rfl rfl (any_of HT_.out (by kernel_rfl)) (fun _ _ _ h => h) (Or.inl ⟨by rfl, ?_⟩) ?_ ?_
      rotate_left
      · intro w'
        go_simp
        with_reducible rfl
      rotate_left
      · simp only [Act.put, List.setIfInBounds_toArray, List.set_cons_zero, List.set_cons_succ, i64_w, i32_w]
        rfl
      refine pure_ (i := 8) (N := (some 25)) (v := ?_) (a' := ?_) #[true, true, true, true, false, true, true, true, true, false, false, false, false, false, false, false, false, false, false, false, false, false, false, false, false, false, false, false, false, false, false, false, false, false, false, false, false, false] rfl rfl (any_of HT_.out (by kernel_rfl)) (fun _ _ _ h => h) (Or.inl ⟨by rfl, ?_⟩) ?_ ?_
      rotate_left
      · intro w'
        go_simp
        with_reducible rfl
      rotate_left
      · simp only [Act.put, List.setIfInBounds_toArray, List.set_cons_zero, List.set_cons_succ, i64_w, i32_w]
        rfl
      refine take_ (i := 4) (N := (some 21)) (v := ?_) (a' := ?_) #[true, true, true, true, true, true, true, true, true, false, false, false, false, false, false, false, false, false, false, false, false, false, false, false, false, false, false, false, false, false, false, false, false, false, false, false, false, false] rfl rfl (take_ofW HT_.out HW_.out (by kernel_rfl)) (fun _ _ _ h => h) (Or.inl ⟨by rfl, ?_⟩) hHeld ?_ ?_
      rotate_left
      · rintro w' ⟨⟨s0, s1, s2, s3, s4, s5, s6, s7, s8, s9⟩, ⟨u0, u1, u2, u3, u4, u5, u6, u7, u8, u9⟩⟩
        go_simp
        with_reducible rfl
      rotate_left
      · simp only [Act.put, List.setIfInBounds_toArray, List.set_cons_zero, List.set_cons_succ, i64_w, i32_w]
        rfl
      refine take_ (i := 9) (N := (some 26)) (v := ?_) (a' := ?_) #[true, true, true, true, true, true, true, true, true, true, false, false, false, false, false, false, false, false, false, false, false, false, false, false, false, false, false, false, false, false, false, false, false, false, false, false, false, false] rfl rfl (take_ofW HT_.out HW_.out (by kernel_rfl)) (fun _ _ _ h => h) (Or.inl ⟨by rfl, ?_⟩) hHeld ?_ ?_
      rotate_left
      · rintro w' ⟨⟨s0, s1, s2, s3, s4, s5, s6, s7, s8, s9⟩, ⟨u0, u1, u2, u3, u4, u5, u6, u7, u8, u9⟩⟩
        go_simp
        with_reducible rfl
      rotate_left
      · simp only [Act.put, List.setIfInBounds_toArray, List.set_cons_zero, List.set_cons_succ, i64_w, i32_w]
        rfl
      refine pure_ (i := 10) (N := (some 27)) (v := ?_) (a' := ?_) #[true, true, true, true, true, true, true, true, true, true, true, false, false, false, false, false, false, false, false, false, false, false, false, false, false, false, false, false, false, false, false, false, false, false, false, false, false, false] rfl rfl (any_of HT_.out (by kernel_rfl)) (fun _ _ _ h => h) (Or.inl ⟨by rfl, ?_⟩) ?_ ?_
      rotate_left
      · intro w'
        go_simp
        with_reducible rfl
      rotate_left
      · simp only [Act.put, List.setIfInBounds_toArray, List.set_cons_zero, List.set_cons_succ, i64_w, i32_w]
        rfl
      refine pure_ (i := 11) (N := (some 28)) (v := ?_) (a' := ?_) #[true, true, true, true, true, true, true, true, true, true, true, true, false, false, false, false, false, false, false, false, false, false, false, false, false, false, false, false, false, false, false, false, false, false, false, false, false, false] rfl rfl (any_of HT_.out (by kernel_rfl)) (fun _ _ _ h => h) (Or.inl ⟨by rfl, ?_⟩) ?_ ?_
      rotate_left
      · intro w'
        go_simp
        with_reducible rfl
      rotate_left
      · simp only [Act.put, List.setIfInBounds_toArray, List.set_cons_zero, List.set_cons_succ, i64_w, i32_w]
        rfl
      refine pure_ (i := 12) (N := (some 29)) (v := ?_) (a' := ?_) #[true, true, true, true, true, true, true, true, true, true, true, true, true, false, false, false, false, false, false, false, false, false, false, false, false, false, false, false, false, false, false, false, false, false, false, false, false, false] rfl rfl (any_of HT_.out (by kernel_rfl)) (fun _ _ _ h => h) (Or.inl ⟨by rfl, ?_⟩) ?_ ?_
      rotate_left
      · intro w'
        go_simp
        with_reducible rfl
      rotate_left
      · simp only [Act.put, List.setIfInBounds_toArray, List.set_cons_zero, List.set_cons_succ, i64_w, i32_w]
        rfl
      refine pure_ (i := 13) (N := (some 30)) (v := ?_) (a' := ?_) #[true, true, true, true, true, true, true, true, true, true, true, true, true, true, false, false, false, false, false, false, false, false, false, false, false, false, false, false, false, false, false, false, false, false, false, false, false, false] rfl rfl (any_of HT_.out (by kernel_rfl)) (fun _ _ _ h => h) (Or.inl ⟨by rfl, ?_⟩) ?_ ?_
      rotate_left
      · intro w'
        go_simp
        with_reducible rfl
      rotate_left
      · simp only [Act.put, List.setIfInBounds_toArray, List.set_cons_zero, List.set_cons_succ, i64_w, i32_w]
        rfl
      refine pure_ (i := 14) (N := (some 31)) (v := ?_) (a' := ?_) #[true, true, true, true, true, true, true, true, true, true, true, true, true, true, true, false, false, false, false, false, false, false, false, false, false, false, false, false, false, false, false, false, false, false, false, false, false, false] rfl rfl (any_of HT_.out (by kernel_rfl)) (fun _ _ _ h => h) (Or.inl ⟨by rfl, ?_⟩) ?_ ?_
      rotate_left
      · intro w'
        go_simp
        with_reducible rfl
      rotate_left
      · simp only [Act.put, List.setIfInBounds_toArray, List.set_cons_zero, List.set_cons_succ, i64_w, i32_w]
        rfl
      refine pure_ (i := 15) (N := (some 32)) (v := ?_) (a' := ?_) #[true, true, true, true, true, true, true, true, true, true, true, true, true, true, true, true, false, false, false, false, false, false, false, false, false, false, false, false, false, false, false, false, false, false, false, false, false, false] rfl rfl (any_of HT_.out (by kernel_rfl)) (fun _ _ _ h => h) (Or.inl ⟨by rfl, ?_⟩) ?_ ?_
      rotate_left
      · intro w'
        go_simp
        with_reducible rfl
      rotate_left
      · simp only [Act.put, List.setIfInBounds_toArray, List.set_cons_zero, List.set_cons_succ, i64_w, i32_w]
        rfl
      refine pure_ (i := 17) (N := (some 34)) (v := ?_) (a' := ?_) #[true, true, true, true, true, true, true, true, true, true, true, true, true, true, true, true, false, true, false, false, false, false, false, false, false, false, false, false, false, false, false, false, false, false, false, false, false, false] rfl rfl (any_of HT_.out (by kernel_rfl)) (fun _ _ _ h => h) (Or.inl ⟨by rfl, ?_⟩) ?_ ?_
      rotate_left
      · intro w'
        go_simp
        with_reducible rfl
      rotate_left
      · simp only [Act.put, List.setIfInBounds_toArray, List.set_cons_zero, List.set_cons_succ, i64_w, i32_w]
        rfl
      refine pure_ (i := 18) (N := (some 35)) (v := ?_) (a' := ?_) #[true, true, true, true, true, true, true, true, true, true, true, true, true, true, true, true, false, true, true, false, false, false, false, false, false, false, false, false, false, false, false, false, false, false, false, false, false, false] rfl rfl (any_of HT_.out (by kernel_rfl)) (fun _ _ _ h => h) (Or.inl ⟨by rfl, ?_⟩) ?_ ?_
      rotate_left
      · intro w'
        go_simp
        with_reducible rfl
      rotate_left
      · simp only [Act.put, List.setIfInBounds_toArray, List.set_cons_zero, List.set_cons_succ, i64_w, i32_w]
        rfl
      refine pure_ (i := 19) (N := (some 36)) (v := ?_) (a' := ?_) #[true, true, true, true, true, true, true, true, true, true, true, true, true, true, true, true, false, true, true, true, false, false, false, false, false, false, false, false, false, false, false, false, false, false, false, false, false, false] rfl rfl (any_of HT_.out (by kernel_rfl)) (fun _ _ _ h => h) (Or.inl ⟨by rfl, ?_⟩) ?_ ?_
      rotate_left
      · intro w'
        go_simp
        with_reducible rfl
      rotate_left
      · simp only [Act.put, List.setIfInBounds_toArray, List.set_cons_zero, List.set_cons_succ, i64_w, i32_w]
        rfl
      refine pure_ (i := 20) (N := (some 37)) (v := ?_) (a' := ?_) #[true, true, true, true, true, true, true, true, true, true, true, true, true, true, true, true, false, true, true, true, true, false, false, false, false, false, false, false, false, false, false, false, false, false, false, false, false, false] rfl rfl (any_of HT_.out (by kernel_rfl)) (fun _ _ _ h => h) (Or.inl ⟨by rfl, ?_⟩) ?_ ?_
      rotate_left
      · intro w'
        go_simp
        with_reducible rfl
      rotate_left
      · simp only [Act.put, List.setIfInBounds_toArray, List.set_cons_zero, List.set_cons_succ, i64_w, i32_w]
        rfl
      refine take_ (i := 16) (N := (some 33)) (v := ?_) (a' := ?_) #[true, true, true, true, true, true, true, true, true, true, true, true, true, true, true, true, true, true, true, true, true, false, false, false, false, false, false, false, false, false, false, false, false, false, false, false, false, false] rfl rfl (take_ofW HT_.out HW_.out (by kernel_rfl)) (fun _ _ _ h => h) (Or.inl ⟨by rfl, ?_⟩) hHeld ?_ ?_
      rotate_left
      · rintro w' ⟨⟨s0, s1, s2, s3, s4, s5, s6, s7, s8, s9⟩, ⟨u0, u1, u2, u3, u4, u5, u6, u7, u8, u9⟩⟩
        go_simp
        with_reducible rfl
      rotate_left
      · simp only [Act.put, List.setIfInBounds_toArray, List.set_cons_zero, List.set_cons_succ, i64_w, i32_w]
        rfl
      refine take_ (i := 21) (N := (some 38)) (v := ?_) (a' := ?_) #[true, true, true, true, true, true, true, true, true, true, true, true, true, true, true, true, true, true, true, true, true, true, false, false, false, false, false, false, false, false, false, false, false, false, false, false, false, false] rfl rfl (take_ofW HT_.out HW_.out (by kernel_rfl)) (fun _ _ _ h => h) (Or.inl ⟨by rfl, ?_⟩) hHeld ?_ ?_
      rotate_left
      · rintro w' ⟨⟨s0, s1, s2, s3, s4, s5, s6, s7, s8, s9⟩, ⟨u0, u1, u2, u3, u4, u5, u6, u7, u8, u9⟩⟩
        go_simp
        with_reducible rfl
      rotate_left
      · simp only [Act.put, List.setIfInBounds_toArray, List.set_cons_zero, List.set_cons_succ, i64_w, i32_w]
        rfl
      refine pure_ (i := 22) (N := (some 39)) (v := ?_) (a' := ?_) #[true, true, true, true, true, true, true, true, true, true, true, true, true, true, true, true, true, true, true, true, true, true, true, false, false, false, false, false, false, false, false, false, false, false, false, false, false, false] rfl rfl (any_of HT_.out (by kernel_rfl)) (fun _ _ _ h => h) (Or.inl ⟨by rfl, ?_⟩) ?_ ?_
      rotate_left
      · intro w'
        go_simp
        with_reducible rfl
      rotate_left
      · simp only [Act.put, List.setIfInBounds_toArray, List.set_cons_zero, List.set_cons_succ, i64_w, i32_w]
        rfl
      refine pure_ (i := 23) (N := (some 40)) (v := ?_) (a' := ?_) #[true, true, true, true, true, true, true, true, true, true, true, true, true, true, true, true, true, true, true, true, true, true, true, true, false, false, false, false, false, false, false, false, false, false, false, false, false, false] rfl rfl (any_of HT_.out (by kernel_rfl)) (fun _ _ _ h => h) (Or.inl ⟨by rfl, ?_⟩) ?_ ?_
      rotate_left
      · intro w'
        go_simp
        with_reducible rfl
      rotate_left
      · simp only [Act.put, List.setIfInBounds_toArray, List.set_cons_zero, List.set_cons_succ, i64_w, i32_w]
        rfl
      refine pure_ (i := 24) (N := (some 41)) (v := ?_) (a' := ?_) #[true, true, true, true, true, true, true, true, true, true, true, true, true, true, true, true, true, true, true, true, true, true, true, true, true, false, false, false, false, false, false, false, false, false, false, false, false, false] rfl rfl (any_of HT_.out (by kernel_rfl)) (fun _ _ _ h => h) (Or.inl ⟨by rfl, ?_⟩) ?_ ?_
      rotate_left
      · intro w'
        go_simp
        with_reducible rfl
      rotate_left
      · simp only [Act.put, List.setIfInBounds_toArray, List.set_cons_zero, List.set_cons_succ, i64_w, i32_w]
        rfl
      refine pure_ (i := 25) (N := (some 42)) (v := ?_) (a' := ?_) #[true, true, true, true, true, true, true, true, true, true, true, true, true, true, true, true, true, true, true, true, true, true, true, true, true, true, false, false, false, false, false, false, false, false, false, false, false, false] rfl rfl (any_of HT_.out (by kernel_rfl)) (fun _ _ _ h => h) (Or.inl ⟨by rfl, ?_⟩) ?_ ?_
      rotate_left
      · intro w'
        go_simp
        with_reducible rfl
      rotate_left
      · simp only [Act.put, List.setIfInBounds_toArray, List.set_cons_zero, List.set_cons_succ, i64_w, i32_w]
        rfl
      refine pure_ (i := 26) (N := (some 43)) (v := ?_) (a' := ?_) #[true, true, true, true, true, true, true, true, true, true, true, true, true, true, true, true, true, true, true, true, true, true, true, true, true, true, true, false, false, false, false, false, false, false, false, false, false, false] rfl rfl (any_of HT_.out (by kernel_rfl)) (fun _ _ _ h => h) (Or.inl ⟨by rfl, ?_⟩) ?_ ?_
      rotate_left
      · intro w'
        go_simp
        with_reducible rfl
      rotate_left
      · simp only [Act.put, List.setIfInBounds_toArray, List.set_cons_zero, List.set_cons_succ, i64_w, i32_w]
        rfl
      refine pure_ (i := 27) (N := (some 44)) (v := ?_) (a' := ?_) #[true, true, true, true, true, true, true, true, true, true, true, true, true, true, true, true, true, true, true, true, true, true, true, true, true, true, true, true, false, false, false, false, false, false, false, false, false, false] rfl rfl (any_of HT_.out (by kernel_rfl)) (fun _ _ _ h => h) (Or.inl ⟨by rfl, ?_⟩) ?_ ?_
      rotate_left
      · intro w'
        go_simp
        with_reducible rfl
      rotate_left
      · simp only [Act.put, List.setIfInBounds_toArray, List.set_cons_zero, List.set_cons_succ, i64_w, i32_w]
        rfl
      refine pure_ (i := 28) (N := (some 45)) (v := ?_) (a' := ?_) #[true, true, true, true, true, true, true, true, true, true, true, true, true, true, true, true, true, true, true, true, true, true, true, true, true, true, true, true, true, false, false, false, false, false, false, false, false, false] rfl rfl (any_of HT_.out (by kernel_rfl)) (fun _ _ _ h => h) (Or.inl ⟨by rfl, ?_⟩) ?_ ?_
      rotate_left
      · intro w'
        go_simp
        with_reducible rfl
      rotate_left
      · simp only [Act.put, List.setIfInBounds_toArray, List.set_cons_zero, List.set_cons_succ, i64_w, i32_w]
        rfl
      refine pure_ (i := 30) (N := (some 47)) (v := ?_) (a' := ?_) #[true, true, true, true, true, true, true, true, true, true, true, true, true, true, true, true, true, true, true, true, true, true, true, true, true, true, true, true, true, false, true, false, false, false, false, false, false, false] rfl rfl (any_of HT_.out (by kernel_rfl)) (fun _ _ _ h => h) (Or.inl ⟨by rfl, ?_⟩) ?_ ?_
      rotate_left
      · intro w'
        go_simp
        with_reducible rfl
      rotate_left
      · simp only [Act.put, List.setIfInBounds_toArray, List.set_cons_zero, List.set_cons_succ, i64_w, i32_w]
        rfl
      refine pure_ (i := 31) (N := (some 48)) (v := ?_) (a' := ?_) #[true, true, true, true, true, true, true, true, true, true, true, true, true, true, true, true, true, true, true, true, true, true, true, true, true, true, true, true, true, false, true, true, false, false, false, false, false, false] rfl rfl (any_of HT_.out (by kernel_rfl)) (fun _ _ _ h => h) (Or.inl ⟨by rfl, ?_⟩) ?_ ?_
      rotate_left
      · intro w'
        go_simp
        with_reducible rfl
      rotate_left
      · simp only [Act.put, List.setIfInBounds_toArray, List.set_cons_zero, List.set_cons_succ, i64_w, i32_w]
        rfl
      refine pure_ (i := 32) (N := (some 49)) (v := ?_) (a' := ?_) #[true, true, true, true, true, true, true, true, true, true, true, true, true, true, true, true, true, true, true, true, true, true, true, true, true, true, true, true, true, false, true, true, true, false, false, false, false, false] rfl rfl (any_of HT_.out (by kernel_rfl)) (fun _ _ _ h => h) (Or.inl ⟨by rfl, ?_⟩) ?_ ?_
      rotate_left
      · intro w'
        go_simp
        with_reducible rfl
      rotate_left
      · simp only [Act.put, List.setIfInBounds_toArray, List.set_cons_zero, List.set_cons_succ, i64_w, i32_w]
        rfl
      refine pure_ (i := 33) (N := (some 50)) (v := ?_) (a' := ?_) #[true, true, true, true, true, true, true, true, true, true, true, true, true, true, true, true, true, true, true, true, true, true, true, true, true, true, true, true, true, false, true, true, true, true, false, false, false, false] rfl rfl (any_of HT_.out (by kernel_rfl)) (fun _ _ _ h => h) (Or.inl ⟨by rfl, ?_⟩) ?_ ?_
      rotate_left
      · intro w'
        go_simp
        with_reducible rfl
      rotate_left
      · simp only [Act.put, List.setIfInBounds_toArray, List.set_cons_zero, List.set_cons_succ, i64_w, i32_w]
        rfl
      refine take_ (i := 29) (N := (some 46)) (v := ?_) (a' := ?_) #[true, true, true, true, true, true, true, true, true, true, true, true, true, true, true, true, true, true, true, true, true, true, true, true, true, true, true, true, true, true, true, true, true, true, false, false, false, false] rfl rfl (take_ofW HT_.out HW_.out (by kernel_rfl)) (fun _ _ _ h => h) (Or.inl ⟨by rfl, ?_⟩) hHeld ?_ ?_
      rotate_left
      · rintro w' ⟨⟨s0, s1, s2, s3, s4, s5, s6, s7, s8, s9⟩, ⟨u0, u1, u2, u3, u4, u5, u6, u7, u8, u9⟩⟩
        go_simp
        with_reducible rfl
      rotate_left
      · simp only [Act.put, List.setIfInBounds_toArray, List.set_cons_zero, List.set_cons_succ, i64_w, i32_w]
        rfl
      refine take_ (i := 34) (N := (some 51)) (v := ?_) (a' := ?_) #[true, true, true, true, true, true, true, true, true, true, true, true, true, true, true, true, true, true, true, true, true, true, true, true, true, true, true, true, true, true, true, true, true, true, true, false, false, false] rfl rfl (take_ofW HT_.out HW_.out (by kernel_rfl)) (fun _ _ _ h => h) (Or.inl ⟨by rfl, ?_⟩) hHeld ?_ ?_
      rotate_left
      · rintro w' ⟨⟨s0, s1, s2, s3, s4, s5, s6, s7, s8, s9⟩, ⟨u0, u1, u2, u3, u4, u5, u6, u7, u8, u9⟩⟩
        go_simp
        with_reducible rfl
      rotate_left
      · simp only [Act.put, List.setIfInBounds_toArray, List.set_cons_zero, List.set_cons_succ, i64_w, i32_w]
        rfl
      refine one_ (i := 35) (N := (some 52)) #[true, true, true, true, true, true, true, true, true, true, true, true, true, true, true, true, true, true, true, true, true, true, true, true, true, true, true, true, true, true, true, true, true, true, true, true, false, false] rfl rfl (one_of HT_.out (by kernel_rfl)) (by decide) (fun K hK => ?_)
      refine goes_ Try.func136 (by kernel_rfl) rfl #[stepV x A8 c8, stepV x B8 d8] (by rfl) rfl rfl (by (try simp only [List.map_toArray, List.map_cons, List.map_nil]); first | done | rfl) ?_
      refine (twin18_yes _ A8 B8 c8 d8 x HCA.out HCB.out).mono ?_
      rintro e w3 ⟨rfl, hb⟩
      have HB3 := Lib.hid (HB.out.trans (hb.mono HB.out.size))
      have hs3 := And.intro (hS.1.below hb) (hS.2.below hb)
      clear hb
      refine ⟨_, rfl, ?_⟩
      refine hK.out _ _ hs3 (fun hHeld => ?_)
      clear hK K
      refine norm_ (a' := ?_) ?_ ?_
      rotate_left
      · show Act.put _ (some 52) _ = _
        simp only [Act.put, List.setIfInBounds_toArray, List.set_cons_zero, List.set_cons_succ, i64_w, i32_w]
        rfl
      refine pure_ (i := 36) (N := (some 53)) (v := ?_) (a' := ?_) #[true, true, true, true, true, true, true, true, true, true, true, true, true, true, true, true, true, true, true, true, true, true, true, true, true, true, true, true, true, true, true, true, true, true, true, true, true, false] rfl rfl (any_of HT_.out (by kernel_rfl)) (fun _ _ _ h => h) (Or.inl ⟨by rfl, ?_⟩) ?_ ?_
      rotate_left
      · intro w'
        go_simp
        with_reducible rfl
      rotate_left
      · simp only [Act.put, List.setIfInBounds_toArray, List.set_cons_zero, List.set_cons_succ, i64_w, i32_w]
        rfl
      refine pure_ (i := 37) (N := (some 54)) (v := ?_) (a' := ?_) #[true, true, true, true, true, true, true, true, true, true, true, true, true, true, true, true, true, true, true, true, true, true, true, true, true, true, true, true, true, true, true, true, true, true, true, true, true, true] rfl rfl (any_of HT_.out (by kernel_rfl)) (fun _ _ _ h => h) (Or.inl ⟨by rfl, ?_⟩) ?_ ?_
      rotate_left
      · intro w'
        go_simp
        with_reducible rfl
      rotate_left
      · simp only [Act.put, List.setIfInBounds_toArray, List.set_cons_zero, List.set_cons_succ, i64_w, i32_w]
        rfl
      refine done_ (done_of HT_.out (by kernel_rfl)) ?_
      clear hS HCA HCB
      go_wp2
      go_roundg (l.length - (i + 1))
      case measure => omega
      case rel => exact ⟨i + 1, by go_num, by omega, rfl, HB3⟩
    · obtain rfl : i = l.length := by omega
      go_wp2
      go_ret
      exact ⟨rfl, HB0.out⟩
end Go.Proofs.Ytmbnjgnmblgjoaa.Man
end

-- JAll
section
/- The statement JournalAll, stepped through, for arguments that are not too large. -/




namespace Go.Proofs.Ytmbnjgnmblgjoaa.Man
open Go.RowKit Go.Shelf Go.Proofs.YtmbnjgnmblgjoaaW.PrintWords Go.Proofs.YtmbnjgnmblgjoaaW.PrintLast Go.Proofs.YtmbnjgnmblgjoaaW.PrintMore
set_option linter.unusedVariables false
set_option linter.unusedSimpArgs false
set_option maxRecDepth 100000

theorem jappE_ok {m : Int} {b : List Int} {l : List K.S26} (h : jappE m b l = 0) : (∀ x ∈ l, Fine x) ∧ jappL m b l = b ++ flatE l := by
  unfold jappE at h
  unfold jappL
  by_cases h0 : jErr l = 0
  · rw [if_pos h0] at h ⊢
    refine ⟨jErr_fine h0, ?_⟩
    unfold appE at h
    unfold appL
    by_cases h1 : ((flatE l).length : Int) ≤ m - (b.length : Int)
    · rw [if_pos h1]
    · rw [if_neg h1] at h; cases h
  · rw [if_neg h0] at h; exact absurd h h0
theorem sum1_len (l : List K.S26) : l.length ≤ Open.sum1 (fun x : K.S26 => x.f2.f6.length + 1) l := by
  induction l with
  | nil => exact Nat.zero_le _
  | cons x l ih => rw [Open.sum1, List.length_cons]; omega

end Go.Proofs.Ytmbnjgnmblgjoaa.Man
end

-- JActs
section
/- A journal's Crash, Sure, Cut, Disk. -/

namespace Go.Proofs.Ytmbnjgnmblgjoaa.Man
open Go.RowKit Go.Shelf Go.Proofs.YtmbnjgnmblgjoaaW.PrintWords Go.Proofs.YtmbnjgnmblgjoaaW.PrintLast Go.Proofs.YtmbnjgnmblgjoaaW.PrintMore
set_option linter.unusedVariables false
set_option linter.unusedSimpArgs false
set_option maxRecDepth 100000

def sureN (es : List Int) (s : Int) : Nat → Nat
  | 0 => 0
  | n + 1 => if s < es.getD n 0 then sureN es s n else n + 1
theorem sure_same {w : World} {base B : Nat} {v : Value} {xs : List Int} {s m : Int} (h : DiskS w base B v xs s m) : Calls Try.prog 40 #[.pointer (some ⟨B, 0, none⟩)] w fun e w' => e = .returned (.int .i64 s) ∧ w' = w := (sure_is h).mono fun _ _ h => ⟨h.1, h.2.symm⟩
section
variable {w w1 w2 : World} {base J D J' D' : Nat} {vE v vE' v' uE u : Value} {es es' b b' : List Int} {s m s' m' : Int}
set_option maxHeartbeats 8000000 in
theorem jsure_is (h : JS w base J D vE v es b s m) : Calls Try.prog 79 #[.pointer (some ⟨J, 0, none⟩)] w fun e w' => e = .returned (.int .i64 (sureN es s es.length : Int)) ∧ ∃ n, w' = w.drewN n := by
  have HS := Lib.hid (fun (W : World) (hb : Below w.heap.size w W) => sure_same (h.disk.below hb (Nat.le_refl _)))
  have c0 := h.jat.c0
  have c1 := h.jat.c1
  obtain ⟨A, c, rfl, hc, hC⟩ := h.row
  have hl : es.length ≤ 9223372036854775807 := hC.2.1
  have H := Lib.hid h
  have HC := Lib.hid hC
  clear h hC
  obtain ⟨R, hR⟩ : ∃ R, sureN es s es.length = R := ⟨_, rfl⟩
  rw [hR]
  have HR := Lib.hid hR
  clear hR
  go_enter Try.func79, Try.ntmps79
  go_wp2_with (go_at_call 137; refine (jnone_is H.out).mono ?_; rintro e w' ⟨rfl, rfl⟩)
  go_loopg [3] es.length (fun g s3 wr => ∃ k n : Nat, s3 = .int .i64 k ∧ k ≤ es.length ∧ g = k ∧ wr = w.drewN n ∧ Hid (sureN es s k = R))
  case atStart => exact ⟨es.length, 0, rfl, Nat.le_refl _, rfl, rfl, HR⟩
  case round =>
    clear HR
    obtain ⟨k, n, rfl, hk, hg, rfl, HR⟩ := hrel
    rcases k with _ | k
    · have hz : R = 0 := HR.out.symm
      subst hz
      go_wp2
      go_quiet (fail)
      go_wp2
      go_ret
      exact ⟨rfl, _, World.drewN_drewN _ _ _⟩
    · obtain ⟨ad, e1, hcell⟩ := Kd.at_int HC.out (k : Int) (by omega) (by omega)
      subst e1
      have hrd : rd es (k : Int) = es.getD k 0 := rfl
      rw [hrd, Int.toNat_natCast] at hcell
      have hR := HR.out
      unfold sureN at hR
      clear hrd HR
      generalize es.getD k 0 = y at hR hcell
      have hw1 : IntKind.i64.wrap (k : Int) = (k : Int) := IntWalk.i64_in _ (by omega)
      have hw2 : (k : Int) < (es.length : Int) := by omega
      have hw3 : (0 : Int) ≤ (k : Int) := by omega
      have hw4 : wrap64 (k : Int) = (k : Int) := by unfold wrap64; omega
      have HG := Lib.hid (fun (q : Nat) => HS.out ((w.drewN n).drewN q) (pw_below_drewN (pw_below_drewN (Below.refl _ _) n) q))
      have d0 : (w.drewN n).cell? ⟨J, 0, none⟩ = some (.pointer (some ⟨D, 0, none⟩)) := by simpa using c0
      have d1 : (w.drewN n).cell? ⟨J, 1, none⟩ = some (.slice (some ad) es.length c) := by simpa using c1
      have d2 : (w.drewN n).cell? (ad.add k) = some (.int .i64 y) := by simpa using hcell
      obtain ⟨W, hW⟩ : ∃ W, w.drewN n = W := ⟨_, rfl⟩
      have HW := Lib.hid hW
      rw [hW] at HG d0 d1 d2 ⊢
      clear hW
      by_cases hy : s < y
      · rw [if_pos hy] at hR
        have HR := Lib.hid hR
        have t1 : decide (y > s) = true := by simpa using hy
        have t2 : decide (s < y) = true := by simpa using hy
        clear hR hy
        go_wp2
        go_quiet ((go_at_call 40; exact Calls.quiet_of_same (HG.out _)))
        go_wp2
        go_roundg k
        case measure => omega
        case rel => exact ⟨k, _, by go_num, by omega, rfl, by rw [← HW.out, World.drewN_drewN], HR⟩
      · rw [if_neg hy] at hR
        subst hR
        have t1 : decide (y > s) = false := by simpa using hy
        have t2 : decide (s < y) = false := by simpa using hy
        clear hy
        go_wp2
        go_quiet ((go_at_call 40; exact Calls.quiet_of_same (HG.out _)))
        go_wp2
        go_ret
        exact ⟨rfl, _, by rw [← HW.out, World.drewN_drewN]⟩
set_option maxHeartbeats 4000000 in
theorem jcrash_is (h : JS w base J D vE v es b s m) (k : Int) (hk0 : 0 ≤ k) (hk1 : k ≤ 9223372036854775807) (hB : areBytesN b = true) {xs : List K.S26} {r : List Int} (hL : LogOf (crL b s k) xs r) :
    Calls Try.prog 78 #[.pointer (some ⟨J, 0, none⟩), .int .i64 k] w fun e w' => ∃ J' vE' vL' v', e = .returned (.tuple #[.pointer (some ⟨J', 0, none⟩), vL', .int .i64 0]) ∧ w.heap.size ≤ J' ∧ JS w' base J' D vE' v' (endsE 0 xs) (flatE xs) ((flatE xs).length : Int) m ∧ ER w' w.heap.size vL' xs ∧ DStep w w' D v v' := by
  have c0 := h.jat.c0
  have hjb := h.lt
  have hjg := h.jge
  have hE : crE k = 0 := by unfold crE; rw [if_neg (by omega)]
  have hB2 : areBytesN (crL b s k) = true := by unfold crL; rw [if_neg (by omega)]; exact bytes_take hB _
  have hC := crash_any h.disk k hk1
  rw [hE] at hC
  have HC := Lib.hid hC
  have HL := Lib.hid hL
  have HB := Lib.hid hB2
  have H := Lib.hid h
  obtain ⟨bb, hbb⟩ : ∃ bb, crL b s k = bb := ⟨_, rfl⟩
  rw [hbb] at HC HL HB
  clear h hE hC hL hB2 hbb
  go_enter Try.func78, Try.ntmps78
  go_wp2_with (first
    | (go_at_call 137; refine (jnone_is H.out).mono ?_; rintro e w' ⟨rfl, rfl⟩)
    | (go_at_call 33; refine HC.out.mono ?_; rintro e w1 ⟨rfl, v1, hd, hs⟩; have c1 := (H.out.acted hs hd).jat.c0; have HD1 := Lib.hid hd; have HS1 := Lib.hid hs; clear hd hs)
    | (go_at_call 72; refine (jopen_is HD1.out HB.out HL.out).mono ?_; rintro e w2 ⟨J2, vE2, vL2, v2, rfl, hJ, hj, he, hll, hd, hs⟩; obtain ⟨AL, cL, rfl, _, _⟩ := ER.C hll; have HJ2 := Lib.hid (JS.made (base := base) (by have := HS1.out.size; omega) hJ hj he hd); have HX2 := Lib.hid (Kd.R_lower hll HS1.out.size); have HST := Lib.hid (HS1.out.then_ hs); have HJZ : Hid (w.heap.size ≤ J2) := Lib.hid (Nat.le_trans HS1.out.size hJ); clear hj he hll hd hs hJ))
  go_ret3
  exact ⟨J2, _, _, v2, rfl, HJZ.out, HJ2.out, HX2.out, HST.out⟩
end
end Go.Proofs.Ytmbnjgnmblgjoaa.Man
end

-- Shared
section
/- A row of entries of the call's own, whose entries' tokens lie in elder memory that is only read. -/


namespace Go.Proofs.Ytmbnjgnmblgjoaa.Man
open Go.RowKit Go.Proofs.YtmbnjgnmblgjoaaW.PrintWords Go.Proofs.YtmbnjgnmblgjoaaW.PrintLast Go.Proofs.YtmbnjgnmblgjoaaW.PrintMore
set_option linter.unusedVariables false
set_option linter.unusedSimpArgs false
set_option maxRecDepth 100000

def SR (w0 w : World) (base : Nat) (v : Value) (xs : List K.S26) : Prop :=
  ∃ rows : List (List Value), rows.length = xs.length ∧ Kd.R (Kd.raw 10) 26 w base (fun _ => True) v rows ∧ ∀ (j : Nat) (x : K.S26) (c : List Value), xs[j]? = some x → rows[j]? = some c → K.k26.K w0 x c
theorem SR.empty (w0 W : World) (base : Nat) (hb : base ≤ W.heap.size) : SR w0 (W.alloc (.cells #[] 26)) base (.slice (some ⟨W.heap.size, 0, none⟩) 0 0) [] :=
  ⟨[], rfl, ⟨fun _ _ => trivial, [], by have := World.ownsRow_lit (base := base) (e := 26) (size := 10) W #[] 0 hb (by simp [maxLen]) (by simp); exact this, Reps.none _ _⟩, fun j x c h => by simp at h⟩
theorem SR.below {w0 w w1 : World} {base : Nat} {v : Value} {xs : List K.S26} (h : SR w0 w base v xs) (hb : Below w.heap.size w w1) : SR w0 w1 base v xs := by
  obtain ⟨rows, h1, h2, h3⟩ := h
  exact ⟨rows, h1, Kd.R_below h2 hb, h3⟩
theorem SR.C {w0 w : World} {base : Nat} {v : Value} {xs : List K.S26} (h : SR w0 w base v xs) (hb : Below w0.heap.size w0 w) : ∃ A c, v = .slice A xs.length c ∧ xs.length ≤ c ∧ Kd.C K.k26 w A xs.length xs := by
  obtain ⟨rows, hl, hR, hf⟩ := h
  obtain ⟨A, c, rfl, hc, hC⟩ := Kd.R_reads hR
  rw [hl] at hC hc ⊢
  refine ⟨A, c, rfl, hc, rfl, hC.2.1, fun hp => ?_⟩
  obtain ⟨ad, he, hcell⟩ := hC.2.2 hp
  refine ⟨ad, he, fun j p hj => ?_⟩
  have hjl : j < rows.length := by have := (List.getElem?_eq_some_iff.1 hj).1; omega
  obtain ⟨c', hcl, hK, hcc⟩ := hcell j _ (List.getElem?_eq_getElem hjl)
  have hk := hf j p _ hj (List.getElem?_eq_getElem hjl)
  refine ⟨c', hcl, ?_, hcc⟩
  rw [show c' = rows[j] from hK.1]
  exact K.k26.K_below hb hk
theorem SR.append_ev {ops : Array Oper} {rest : List Oper} {o : Oper} {a : Act} {Q : Exit → Act → World → Prop} {w0 w : World} {base : Nat} {v : Value} {xs ys : List K.S26} {A : Option Addr} {m c : Nat}
    (h : SR w0 w base v xs) (HR : Kd.C K.k26 w0 A m ys) (h0 : Below w0.heap.size w0 w) (hgd : o.guard = none) (s x : Operand) (ho : o.op = .call { callee := .builtin .append, args := #[s, x], argTypes := #[69, 69] })
    (hs : a.eval s = v) (hx : a.eval x = .slice A m c) (hbase : base ≤ w.heap.size) (hl : (xs.length + m) * 96 ≤ 140737488355328)
    (k : ∀ v1 w1, SR w0 w1 base v1 (xs ++ ys) → Below base w w1 → wpList Try.prog ops Q rest (a.put o.dst v1) w1) : wpList Try.prog ops Q (o :: rest) a w := by
  obtain ⟨rows, hlr, hR, hf⟩ := h
  have hRR : ReadsRow (K.k26.K w0) 10 w A m ys := ReadsRow.imp_ (show ReadsRow (K.k26.K w0) 10 w0 A m ys from HR) h0 (fun _ _ hp => hp)
  obtain ⟨news, hnl, hnr, hnf⟩ := Kd.reads_raw hRR (fun y c hk => ⟨K.k26.K_len hk, K.k26.K_one hk⟩)
  refine Kd.R_append_rows (Kd.raw 10) (w0 := w) base hgd s x 69 26 (.agg #[.int .i64 0, .int .i64 0, .int .i64 0, .int .i64 0, .int .i64 0, .int .i64 0, .int .i64 0, .int .i64 0, .slice none 0 0, .int .i64 0]) 96 ho Try.underlying69 info_ent rfl (by decide) (by decide) v rows news A m c (fun _ => True) (fun _ => False) hs hx hR hnr (fun _ _ hk => hk) (fun _ hk => hk.elim) (fun _ _ => trivial) (Below.refl _ _) hbase (by rw [hlr]; exact hl) ?_
  intro v1 w1 hr hb hg hat
  refine k v1 w1 ⟨rows ++ news, by rw [List.length_append, List.length_append, hlr, hnl], hr, fun j x c hj hc => ?_⟩ hb
  by_cases hjl : j < xs.length
  · rw [List.getElem?_append_left hjl] at hj
    rw [List.getElem?_append_left (by omega)] at hc
    exact hf j x c hj hc
  · rw [List.getElem?_append_right (by omega)] at hj
    rw [List.getElem?_append_right (by omega), hlr] at hc
    exact hnf _ x c hj hc
end Go.Proofs.Ytmbnjgnmblgjoaa.Man
end

-- JKeeps
section
/- The statement JournalKeeps, stepped through, for arguments that are not too large. -/



namespace Go.Proofs.Ytmbnjgnmblgjoaa.Man
open Go.RowKit Go.Shelf Go.Proofs.YtmbnjgnmblgjoaaW.PrintWords Go.Proofs.YtmbnjgnmblgjoaaW.PrintLast Go.Proofs.YtmbnjgnmblgjoaaW.PrintMore
set_option linter.unusedVariables false
set_option linter.unusedSimpArgs false
set_option maxRecDepth 100000

theorem take_C {α : Type} {d : Kd α} {w : World} {A : Option Addr} {n k : Nat} {xs : List α} (h : Kd.C d w A n xs) (hk : k ≤ n) : Kd.C d w A k (xs.take k) := by
  have hl : xs.length = n := h.1
  refine ⟨by rw [List.length_take]; omega, by have := h.2.1; omega, fun hp => ?_⟩
  obtain ⟨ad, he, hc⟩ := h.2.2 (by omega)
  refine ⟨ad, he, fun j p hj => hc j p ?_⟩
  rw [List.getElem?_take] at hj
  split at hj
  · exact hj
  · cases hj
theorem SR.acted {w0 w w1 : World} {base base' B : Nat} {u v v' : Value} {xs : List K.S26} {b : List Int} {s m : Int} (h : SR w0 w base u xs) (hd : DiskS w base' B v b s m) (st : DStep w w1 B v v') : SR w0 w1 base u xs := by
  obtain ⟨rows, h1, h2, h3⟩ := h
  exact ⟨rows, h1, st.Rt hd h2 (by decide) (by decide), h3⟩
theorem sure_all (xs : List K.S26) : sureN (endsE 0 xs) ((flatE xs).length : Int) (endsE 0 xs).length = xs.length := by
  rw [endsE_length]
  cases h : xs.length with
  | zero => rfl
  | succ n =>
    rw [sureN, endsE_get n 0 xs (by omega), if_neg]
    rw [List.take_of_length_le (by omega)]
    omega
theorem keeps_log {M : Int} {a b : List K.S26} (ha : jappE M [] a = 0) (hb : jappE M (flatE a) b = 0) (keep : Int) (h0 : 0 ≤ keep) : ∃ k r, a.length ≤ k ∧ k ≤ (a ++ b).length ∧ LogOf (crL (flatE (a ++ b)) ((flatE a).length : Int) keep) ((a ++ b).take k) r := by
  have hF : ∀ x ∈ a ++ b, Fine x := by
    intro x hx
    rcases List.mem_append.1 hx with hx | hx
    · exact (jappE_ok ha).1 x hx
    · exact (jappE_ok hb).1 x hx
  have hle : (flatE a).length ≤ (flatE (a ++ b)).length := by rw [flatE_append, List.length_append]; omega
  obtain ⟨k, r, h1, h2, h3⟩ := log_cut (a ++ b) (((flatE a).length : Int) + min keep (((flatE (a ++ b)).length : Int) - ((flatE a).length : Int))).toNat hF (by omega)
  refine ⟨k, r, h3 a.length (by simp) ?_, h1, ?_⟩
  · rw [List.take_left]; omega
  · unfold crL
    rw [if_neg (by omega)]
    exact h2

set_option maxHeartbeats 32000000 in
theorem jkeeps_walk (A1 : Option Addr) (c1 : Nat) (a : List K.S26) (A2 : Option Addr) (c2 : Nat) (b : List K.S26) (keep : Int) (w : World) (hr1 : Kd.C K.k26 w A1 a.length a) (hc1 : a.length ≤ c1) (hr2 : Kd.C K.k26 w A2 b.length b) (hc2 : b.length ≤ c2) (hk0 : 0 ≤ keep) (hk1 : keep ≤ 65535) (hl : a.length + b.length ≤ 1048576) :
    Calls Try.prog 17 #[.slice A1 a.length c1, .slice A2 b.length c2, .int .u16 keep] w fun e w' => e = .returned (.bool true) ∧ Below w.heap.size w w' := by
  have HC1 := Lib.hid hr1
  have HC2 := Lib.hid hr2
  clear hr1 hr2
  obtain ⟨R1, hR1⟩ : ∃ R1, jappE 262144 [] a = R1 := ⟨_, rfl⟩
  obtain ⟨b1, hb1⟩ : ∃ b1, jappL 262144 [] a = b1 := ⟨_, rfl⟩
  obtain ⟨e1, he1⟩ : ∃ e1, jappEs 262144 [] [] a = e1 := ⟨_, rfl⟩
  obtain ⟨R2, hR2⟩ : ∃ R2, jappE 262144 b1 b = R2 := ⟨_, rfl⟩
  obtain ⟨b2, hb2⟩ : ∃ b2, jappL 262144 b1 b = b2 := ⟨_, rfl⟩
  obtain ⟨e2, he2⟩ : ∃ e2, jappEs 262144 b1 e1 b = e2 := ⟨_, rfl⟩
  have he1l : e1.length ≤ 1048576 := by
    rw [← he1]
    unfold jappEs
    split
    · rw [List.nil_append, endsE_length]; omega
    · simp
  have HR1 := Lib.hid hR1
  have HR2 := Lib.hid hR2
  have Hb1 := Lib.hid hb1
  have Hb2 := Lib.hid hb2
  have He1 := Lib.hid he1
  have He2 := Lib.hid he2
  clear hR1 hR2 hb1 hb2 he1 he2
  go_enter Try.func17, Try.ntmps17
  go_upto_region 8 with (first
    | (go_at_call 26; refine (new_is 262144 w w.heap.size (Nat.le_refl _) (by decide) (by decide)).mono ?_; rintro e w1 ⟨rfl, hd, hb⟩; have HD1 := Lib.hid hd; have HB1 := Lib.hid hb; have HOP := Lib.hid (jopen_is hd rfl log_nil); clear hd hb)
    | (go_at_call 72; refine HOP.out.mono ?_; rintro e w2 ⟨J, vE, vL, v', rfl, hJ, hj, he, hll, hd, hs⟩; have HB2 := Lib.hid (HB1.out.trans (hs.below HD1.out)); obtain ⟨AL, cL, rfl, _, _⟩ := ER.C hll; have hjs := JS.made (Nat.le_trans HB1.out.size (Nat.le_refl _)) hJ hj he hd; have HAP := Lib.hid (jappend_is hjs A1 c1 a (Kd.C_below HC1.out HB2.out) hc1 (by omega) (by simp [endsE])); have HJ2 := Lib.hid hjs; clear hj he hll hd hs hJ hjs HOP)
    | (go_at_call 76; refine HAP.out.mono ?_; rintro e w3 ⟨rfl, vE3, v3, hj, hs⟩; rw [show jappEs 262144 (flatE []) (endsE 0 []) a = e1 from He1.out, show jappL 262144 (flatE []) a = b1 from Hb1.out] at hj; rw [show jappE 262144 (flatE []) a = R1 from HR1.out]; have HJ3 := Lib.hid hj; have HB3 := Lib.hid (HB2.out.trans (hs.belowJ HJ2.out)); clear hj hs HAP)
    | (go_at_call 77; refine (jsync_is HJ3.out).mono ?_; rintro e w4 ⟨rfl, hj, hs⟩; have HJ4 := Lib.hid hj; have HB4 := Lib.hid (HB3.out.trans (hs.belowJ HJ3.out)); clear hj hs)
    | (go_at_call 74; refine (jlen_is HJ4.out).mono ?_; rintro e w' ⟨rfl, rfl⟩))
  have HAP2 := Lib.hid (jappend_is HJ4.out A2 c2 b (Kd.C_below HC2.out HB4.out) hc2 (by omega) he1l)
  clear HD1 HB1 HB2 HJ2 HB3 HJ3
  go_upto_region 9 with (go_at_call 76; refine HAP2.out.mono ?_; rintro e w5 ⟨rfl, vE5, v5, hj, hs⟩; rw [He2.out, Hb2.out] at hj; rw [HR2.out]; have HJ5 := Lib.hid hj; have HB5 := Lib.hid (HB4.out.trans (hs.belowJ HJ4.out)); clear hj hs)
  clear HAP2 HJ4 HB4
  by_cases h1 : R1 = 0
  · by_cases h2 : R2 = 0
    · have m1 : jappE 262144 [] a = 0 := HR1.out.trans h1
      have q1 : b1 = flatE a := by rw [← Hb1.out, (jappE_ok m1).2, List.nil_append]
      have m2 : jappE 262144 (flatE a) b = 0 := by rw [← q1]; exact HR2.out.trans h2
      have q2 : b2 = flatE (a ++ b) := by rw [← Hb2.out, q1, (jappE_ok m2).2, flatE_append]
      have q3 : e1.length = a.length := by rw [← He1.out]; unfold jappEs; rw [if_pos m1, List.nil_append, endsE_length]
      obtain ⟨k, r, k1, k2, hL⟩ := keeps_log m1 m2 keep hk0
      obtain ⟨ab, hab⟩ : ∃ ab, a ++ b = ab := ⟨_, rfl⟩
      have hbl : b1.length = (flatE a).length := by rw [q1]
      rw [hab] at k2 hL q2
      obtain ⟨ys, hys⟩ : ∃ ys, ab.take k = ys := ⟨_, rfl⟩
      have hyl : ys.length = k := by rw [← hys, List.length_take]; omega
      rw [hys, ← q2, ← hbl] at hL
      have hB2 : areBytesN b2 = true := by rw [q2]; exact flatE_bytes ab
      have HCR := Lib.hid (fun (W : World) (v : Value) (vE : Value) (J : Nat) (h : JS W w.heap.size J w.heap.size vE v e2 b2 (b1.length : Int) 262144) => jcrash_is h keep hk0 (by omega) hB2 hL)
      have habl : ab.length ≤ 1048576 := by rw [← hab, List.length_append]; omega
      have t3 : decide (ys.length < e1.length) = false := by simp; omega
      have t4 : decide (ab.length < ys.length) = false := by simp; omega
      have t5 : (e1.length != a.length) = false := by rw [q3]; simp
      have t6 : ((e1.length : Int) != (a.length : Int)) = false := by rw [q3]; simp
      have HAB := Lib.hid hab
      have HYS := Lib.hid hys
      have HYL := Lib.hid hyl
      have hyb : ys.length ≤ ab.length := by omega
      subst h1 h2
      clear m1 m2 q1 q2 q3 k1 k2 hL hab hbl hys hyl hB2 he1l
      go_upto_region 11 with (fail)
      have hbe : Below w5.heap.size w5 (w5.alloc (.cells #[] 26)) := (Below.refl _ _).alloc (Nat.le_refl _) _
      have HBE := Lib.hid hbe
      have HSE := Lib.hid (SR.empty w w5 w5.heap.size (Nat.le_refl _))
      have HBW := Lib.hid (HB5.out.trans (hbe.mono HB5.out.size))
      clear hbe
      go_upto_region 12 with (first
        | (at_builtin; refine SR.append_ev (w := w5.alloc (.cells #[] 26)) (base := w5.heap.size) HSE.out HC1.out HBW.out rfl (.tmp 61) (.tmp 62) rfl rfl rfl HBE.out.size (by simp only [List.length_nil]; omega) ?_; intro v6 w6 hsr hb; rw [List.nil_append] at hsr; have HX6 := Lib.hid (HBE.out.trans hb); have HW6 := Lib.hid (HB5.out.trans ((HBE.out.trans hb).mono HB5.out.size)); have HS6 := Lib.hid hsr; obtain ⟨A6, k6, rfl, _, _⟩ := hsr.C HW6.out; clear hsr hb)
        | (at_builtin; refine SR.append_ev (w := w6) (base := w5.heap.size) HS6.out HC2.out HW6.out rfl (.tmp 63) (.tmp 64) rfl rfl rfl HX6.out.size (by omega) ?_; intro v7 w7 hsr hb; rw [HAB.out] at hsr; have HX7 := Lib.hid (HX6.out.trans hb); have HW7 := Lib.hid (HB5.out.trans ((HX6.out.trans hb).mono HB5.out.size)); obtain ⟨A7, k7, rfl, hk7, _⟩ := hsr.C HW7.out; have HS7 := Lib.hid hsr; have HJ7 := Lib.hid (HJ5.out.below HX7.out (Nat.le_refl _)); clear hsr hb))
      have HCC := Lib.hid (HCR.out _ _ _ _ HJ7.out)
      have hyc : ys.length ≤ k7 := Nat.le_trans hyb hk7
      clear HCR HBE HSE HBW HX6 HW6 HS6 HX7 HJ5
      go_upto_region 13 with (go_at_call 78; refine HCC.out.mono ?_; rintro e w8 ⟨J8, vE8, vL8, v8, rfl, hJ8, hj, hll, hs⟩; obtain ⟨A8, k8, rfl, _, hC8⟩ := ER.C hll; have HS8 := Lib.hid (HS7.out.acted HJ7.out.disk hs); have HB8 := Lib.hid (HW7.out.trans (hs.below HJ7.out.disk)); have HJ8 := Lib.hid hj; have HC8 := Lib.hid hC8; clear hj hll hs hC8 hJ8)
      have hC9 : Kd.C K.k26 w8 A7 ys.length ys := by
        obtain ⟨A9, k9, e9, _, h9⟩ := HS8.out.C HB8.out
        cases e9
        have := take_C h9 (k := k) (by rw [← HYL.out]; exact hyb)
        rw [HYS.out, ← HYL.out] at this
        exact this
      have HEN := Lib.hid (entries18_yes w8 A8 A7 k8 k7 ys HC8.out hC9)
      obtain ⟨es, hes⟩ : ∃ es, endsE 0 ys = es := ⟨_, rfl⟩
      obtain ⟨fs, hfs⟩ : ∃ fs, flatE ys = fs := ⟨_, rfl⟩
      have hel : es.length = ys.length := by rw [← hes]; exact endsE_length 0 ys
      have hsa : sureN es (fs.length : Int) es.length = ys.length := by rw [← hes, ← hfs]; exact sure_all ys
      have t7 : (es.length == ys.length) = true := by rw [hel]; exact beq_self_eq_true _
      have t8 : ((es.length : Int) == (ys.length : Int)) = true := by rw [hel]; exact beq_self_eq_true _
      have HSA := Lib.hid hsa
      rw [hes, hfs] at HJ8
      clear hC9 HC8 HS7 HJ7 HS8 HCC hes hfs hel hsa
      go_wp2_with (first
        | (go_at_call 73; refine HEN.out.mono ?_; rintro e w9 ⟨rfl, hb⟩; have HB9 := Lib.hid (HB8.out.trans (hb.mono HB8.out.size)); have HJ9 := Lib.hid (HJ8.out.below hb (Nat.le_refl _)); clear hb)
        | (go_at_call 74; refine (jlen_is HJ9.out).mono ?_; rintro e w' ⟨rfl, rfl⟩)
        | (go_at_call 79; refine (jsure_is HJ9.out).mono ?_; rintro e w' ⟨rfl, nd, rfl⟩; rw [HSA.out]; have HBa := Lib.hid (HB9.out.trans ((pw_below_drewN (Below.refl _ _) nd : Below w9.heap.size w9 (w9.drewN nd)).mono HB9.out.size)))
        | (go_at_call 71; refine (awake18_is _).mono ?_; rintro e wa ⟨rfl, hb⟩; have HBb := Lib.hid (HBa.out.trans (hb.mono HBa.out.size)); clear hb))
      go_ret
      exact ⟨rfl, HBb.out⟩
    · have t1 : (R2 != 0) = true := by simpa using h2
      subst h1
      clear h2 HJ5
      go_wp2_with (go_at_call 71; refine (awake18_is _).mono ?_; rintro e wa ⟨rfl, hb⟩; have HBa := Lib.hid (HB5.out.trans (hb.mono HB5.out.size)); clear hb)
      go_ret
      exact ⟨rfl, HBa.out⟩
  · have t1 : (R1 != 0) = true := by simpa using h1
    clear h1 HJ5
    go_wp2_with (go_at_call 71; refine (awake18_is _).mono ?_; rintro e wa ⟨rfl, hb⟩; have HBa := Lib.hid (HB5.out.trans (hb.mono HB5.out.size)); clear hb)
    go_ret
    exact ⟨rfl, HBa.out⟩
theorem jkeeps_row (A1 : Option Addr) (c1 : Nat) (a : List K.S26) (A2 : Option Addr) (c2 : Nat) (b : List K.S26) (keep : Int) (w : World) (hr1 : Kd.C K.k26 w A1 a.length a) (hc1 : a.length ≤ c1) (_ : True) (hr2 : Kd.C K.k26 w A2 b.length b) (hc2 : b.length ≤ c2) (_ : True) (hw : (Lit.int .u16 keep).wf = true)
    (hU : (Open.sum1 (fun x : K.S26 => x.f2.f6.length + 1) a + 1) + (Open.sum1 (fun x : K.S26 => x.f2.f6.length + 1) b + 1) ≤ 1048576) :
    Calls Try.prog 17 #[.slice A1 a.length c1, .slice A2 b.length c2, .int .u16 keep] w fun e w' => e = .returned (.bool true) ∧ Below w.heap.size w w' :=
  jkeeps_walk A1 c1 a A2 c2 b keep w hr1 hc1 hr2 hc2 (Open.wf_u16 hw).1 (Open.wf_u16 hw).2 (by have := sum1_len a; have := sum1_len b; omega)
end Go.Proofs.Ytmbnjgnmblgjoaa.Man
end

-- LawUJournalKeeps
section
-- Written by a program of this session (wip/tools/row5.py). Not trusted: Lean checks it.












namespace Go.Proofs.Ytmbnjgnmblgjoaa.journalKeepsUpto
open Go.ChangeShapes Go.WideShapes Go.ChangeAt Go.RowKit Go.Proofs.Ytmbnjgnmblgjoaa.Open
open Go.ChangeMaps (open_string shut_string)
set_option linter.unusedVariables false
theorem own : ownKnob Try.prog.godebug = none := by kernel_rfl
theorem laidOut : laidOutB Try.prog = true := by kernel_rfl
set_option maxRecDepth 100000 in
theorem lifted (os : Os) (started : os.Started) (H : Type) (enc : TypeId × Value → H) (F : Stop.Interp) :
    ReturnsInHanded {} Try.checked os 17 .any ((Rows.OpenSpec.upto Rows.journalKeepsSpec).pre6 enc Try.prog Try.f17 Rows.journalKeepsUptoRow.domain false) (((Rows.OpenSpec.upto Rows.journalKeepsSpec).at F).post enc Try.prog Try.f17 false true false false) := by
  refine returnsInHanded_of_cond_sized (C := Try.checked) (s := Rows.OpenSpec.upto Rows.journalKeepsSpec) (k := Rows.uptoSmall) rfl own started (by kernel_rfl) Try.func17
    (OpenSpec.witness (enc := enc) (C := Try.checked) (s := Rows.OpenSpec.upto Rows.journalKeepsSpec) (k := Rows.uptoSmall) rfl false ⟨#[], #[.slice none 0 0, .slice none 0 0, .int .u16 0], []⟩ 12 (by kernel_rfl) (by kernel_rfl) (by kernel_rfl)
      (x := ([.nil, .nil, .lit (.int .u16 0)], [], [])) (by kernel_rfl) rfl (by kernel_rfl)) ?_
  intro W base args ds gs before hval0 hW hcnd hk0 hsz0 _
  have hsz : (DataW.weightsEach Try.prog (Try.f17.params.toList ++ Rows.journalKeepsSpec.plain.varTypes Try.prog) (ds ++ gs)).all (· ≤ reachBytes) = true := hsz0
  have hval : ∀ (j : Nat) t v, Try.f17.params[j]? = some t → args[j]? = some v → Value.okWide Try.prog W .any base t v := hval0
  have hW' := hW
  obtain ⟨p, q, hA0, hV, rfl, hfz, hnd⟩ := hW
  have hA : DataW.TrodAll enc Try.prog W 0 (fun _ => true) true Try.f17.params.toList args.toList ds p := hA0
  rw [Try.params17] at hA hval hsz
  obtain ⟨v0, vs0, d0, ds0, p0, q0, hargs, rfl, rfl, h0, r0⟩ := trodAll_cons hA
  obtain ⟨v1, vs1, d1, ds1, p1, q1, rfl, rfl, rfl, h1, r1⟩ := trodAll_cons r0
  obtain ⟨v2, vs2, d2, ds2, p2, q2, rfl, rfl, rfl, h2, r2⟩ := trodAll_cons r1
  obtain ⟨rfl, rfl, rfl⟩ := trodAll_nil r2
  obtain rfl : args = #[v0, v1, v2] := by cases args; simp_all
  obtain ⟨rfl, rfl⟩ := trodVars_none hV
  obtain ⟨a0, len0, cap0, rfl⟩ := okWide_slice Try.underlying69 (hval 0 69 v0 rfl rfl)
  obtain ⟨z0, rfl, c0, k0, w0, b0⟩ := Opens.slice_arg opens_ents hsz (j := 0) (t := 69) rfl rfl h0
  have kt0 := h0
  have lt0 : ∀ x ∈ p0, x.block < W.heap.size := by obtain ⟨m, hm⟩ := kt0; exact DataW.trod_lt m _ _ _ hm
  try simp only [sum1_const] at b0
  obtain ⟨a1, len1, cap1, rfl⟩ := okWide_slice Try.underlying69 (hval 1 69 v1 rfl rfl)
  obtain ⟨z1, rfl, c1, k1, w1, b1⟩ := Opens.slice_arg opens_ents hsz (j := 1) (t := 69) rfl rfl h1
  have kt1 := h1
  have lt1 : ∀ x ∈ p1, x.block < W.heap.size := by obtain ⟨m, hm⟩ := kt1; exact DataW.trod_lt m _ _ _ hm
  try simp only [sum1_const] at b1
  obtain ⟨a2, rfl, rfl, rfl, w2⟩ := open_int Try.underlying66 (hval 2 66 v2 rfl rfl) h2
  have hkk : Rows.uptoBulkAll _ ≤ 1048576 := of_decide_eq_true hk0
  simp only [List.append_nil, Rows.uptoBulkAll] at hkk
  clear hA0 hval0 hsz0 hsz
  refine (Man.jkeeps_row a0 cap0 z0 a1 cap1 z1 a2 W k0 c0 w0 k1 c1 w1 w2 (by first | omega | (simp only [] at *; omega))).mono fun e W' ⟨he, bel⟩ => ?_
  subst he
  exact ⟨_, rfl, _, _, _, [], _, [], hW', trodAll_mk1 (shut_bool Try.underlying4 _), (trodAll_cons_mk (Below.trod laidOut (by kernel_rfl) (of_decide_eq_true (by kernel_rfl)) kt0 bel lt0) (trodAll_cons_mk (Below.trod laidOut (by kernel_rfl) (of_decide_eq_true (by kernel_rfl)) kt1 bel lt1) (trodAll_cons_mk (shut_int Try.underlying66 w2) trodAll_mk0))), rfl, bel.frame _, fun h => by cases h⟩
theorem proved : Rows.JournalKeepsUptoSaid :=
  OpenClaim.holds_of_cond 17 Try.f17 rfl rfl rfl rfl rfl rfl rfl ⟨rfl, rfl, rfl, rfl, rfl⟩ rfl rfl rfl rfl rfl (by kernel_rfl) Try.func17 (by kernel_rfl)
    (of_decide_eq_true (by kernel_rfl)) (by unfold Func.isWrapper; first | (rw [if_pos (by decide +kernel)]; kernel_rfl) | (rw [if_neg (by decide +kernel)]; exact ⟨rfl, rfl⟩))
    (fun os started H enc _ F => lifted os started H enc F)
#print axioms proved
end Go.Proofs.Ytmbnjgnmblgjoaa.journalKeepsUpto
namespace Go.Proofs.Ytmbnjgnmblgjoaa
/-- The row, under a short name, for the claim. -/
theorem journalKeepsUpto_holds : Rows.JournalKeepsUptoSaid := journalKeepsUpto.proved
end Go.Proofs.Ytmbnjgnmblgjoaa
end
