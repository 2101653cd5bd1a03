-- Laid together by a program of this session (wip/tools/shake.py). Not trusted: Lean checks it.
import Derived.Test.YtmbnjgnmblgjoaaJo3

-- JAppend
section
/- A journal's Append. Printed by wip/tools/gen_jappend.py. -/

namespace Go.Proofs.Ytmbnjgnmblgjoaa.Man
open Go.RowKit Go.Shelf Go.Proofs.YtmbnjgnmblgjoaaW.PrintWords Go.Proofs.YtmbnjgnmblgjoaaW.PrintLast Go.Proofs.YtmbnjgnmblgjoaaW.PrintMore
set_option linter.unusedVariables false
set_option linter.unusedSimpArgs false
set_option maxRecDepth 100000
def jaR12.T : Bool × List (List Nat × List Nat) := (true, [([], []), ([], []), ([1], [1]), ([], []), ([3], [3]), ([0, 2, 4], [0, 2, 4]), ([], []), ([6], [6]), ([7], [7]), ([8], [8]), ([9], [9]), ([], []), ([11], [11]), ([10, 12], [10, 12]), ([13], [13]), ([5, 14, 10], [5, 14]), ([15, 15, 0, 1, 2, 3, 4, 5, 6, 7, 8, 9, 10, 11, 12, 13, 14, 15], [0, 1, 3, 15])])
def jaR12.B : List Nat := [0, 0, 2, 0, 8, 31, 0, 64, 192, 448, 960, 0, 2048, 8128, 16320, 32767, 65535]
theorem jaR12.tab : rtab .any (opsOf Try.f76 12) = jaR12.T := by kernel_rfl
theorem jaR12.bits : waitsOk jaR12.T.2 jaR12.B = true := by kernel_rfl

/-- The first error of entries that are to be appended. -/
def jErr : List K.S26 → Int
  | [] => 0
  | x :: xs => if frameErr x = 0 then jErr xs else frameErr x
theorem jErr_fine : ∀ {l : List K.S26}, jErr l = 0 → ∀ x ∈ l, Fine x
  | [], _, x, hx => by cases hx
  | y :: ys, h, x, hx => by
    unfold jErr at h
    by_cases h0 : frameErr y = 0
    · rw [if_pos h0] at h
      rcases List.mem_cons.1 hx with rfl | hx
      · exact frameErr_fine.1 h0
      · exact jErr_fine h x hx
    · rw [if_neg h0] at h; exact absurd h h0
def jappE (m : Int) (b : List Int) (l : List K.S26) : Int := if jErr l = 0 then appE m b (flatE l) else jErr l
def jappL (m : Int) (b : List Int) (l : List K.S26) : List Int := if jErr l = 0 then appL m b (flatE l) else b
def jappEs (m : Int) (b es : List Int) (l : List K.S26) : List Int := if jappE m b l = 0 then es ++ endsE b.length l else es
theorem flat_len_fine : ∀ {l : List K.S26}, (∀ x ∈ l, Fine x) → (flatE l).length ≤ l.length * 65543
  | [], _ => by simp [flatE]
  | y :: ys, h => by
    rw [flatE_cons, List.length_append, List.length_cons]
    have h1 := entF_le (h y List.mem_cons_self)
    have h2 := flat_len_fine (l := ys) (fun x hx => h x (List.mem_cons_of_mem _ hx))
    omega
/-- b = append(b, ys...): what was written is told. -/
theorem BR.append_ev2 {ops : Array Oper} {rest : List Oper} {o : Oper} {a : Act} {Q : Exit → Act → World → Prop} {w : World} {base : Nat} {v : Value} {xs ys : List Int} {A : Option Addr} {m c : Nat}
    (h : BR w base v xs) (HR : Kd.C (Kd.int .u8) w A m ys) (hgd : o.guard = none) (s x : Operand) (ho : o.op = .call { callee := .builtin .append, args := #[s, x], argTypes := #[27, 27] })
    (hs : a.eval s = v) (hx : a.eval x = .slice A m c) (hbase : base ≤ w.heap.size) (hl : xs.length + m ≤ 140737488355328)
    (k : ∀ v1 w1, BR w1 base v1 (xs ++ ys) → Below base w w1 → w.grownBy w1 v.ownBlock → wpList Try.prog ops Q rest (a.put o.dst v1) w1) : wpList Try.prog ops Q (o :: rest) a w :=
  Kd.R_append_rows (Kd.int .u8) (Rr := (Kd.int .u8).K w) (w0 := w) base hgd s x 27 5 (.int .u8 0) 1 ho Try.underlying27 info_u8 rfl (by decide) (by omega) v xs ys A m c (fun _ => True) (fun _ => False) hs hx h HR (fun _ _ h => h) (fun _ h => h.elim) (fun _ _ => trivial) (Below.refl _ _) hbase (by omega)
    (fun v1 w1 h1 h2 h3 h4 => k v1 w1 h1 h2 h3)
theorem disk_store {w : World} {base B J j : Nat} {v u : Value} {xs : List Int} {s m : Int} (h : DiskS w base B v xs s m) (h1 : J ≠ B) (h2 : some J ≠ v.ownBlock) : DiskS (w.setCell ⟨J, j, none⟩ u) base B v xs s m :=
  { h with
    cells := h.cells.move (Below.heap_setCell _ _ _ _ (by show B ≠ J; omega))
    row := h.row.move fun k hk => Below.heap_setCell _ _ _ _ (fun e => h2 (by rw [hk, e])) }
/-- Rows of the call's own stand behind an act on a disk that was there. -/
theorem DStep.R {α : Type} {d : Kd α} {e base B : Nat} {w w1 : World} {v v' u : Value} {xs : List α} (st : DStep w w1 B v v') (h : d.R e w base (fun _ => True) u xs) (hB : B < base) (hv : ∀ k, v.ownBlock = some k → k < base) : d.R e w1 base (fun _ => True) u xs :=
  Kd.R_mono (Kd.R_move (Kd.R_bound h) (fun k hk => st.block k hk.2.2.1 (by have := hk.2.1; omega) (fun e => by have := hv k e.symm; have := hk.2.1; omega))) (fun _ _ => trivial)
theorem JS.storeE {w : World} {base J D n0 : Nat} {vE v vS : Value} {es zs b : List Int} {s m : Int} (h : JS w base J D vE v es b s m) (hI : IR w n0 vS zs) (hn : J < n0) (hb : base ≤ n0) : JS (w.setCell ⟨J, 1, none⟩ vS) base J D vS v zs b s m := by
  have hI2 : IR (w.setCell ⟨J, 1, none⟩ vS) n0 vS zs := Kd.R_mono (Kd.R_grown (Kd.R_bound hI) (grownBy_set w J 1 vS (World.grownBy.refl w _)) (fun k hk e => by cases e; have := hk.2.1; omega)) (fun _ _ => trivial)
  exact ⟨h.jat.put1 vS, IR.len hI2, fun k hk => ⟨by have := R_ge hI2 k hk; omega, R_typ hI2 k hk⟩, disk_store h.disk h.neD h.neV, h.jge⟩
theorem JS.storeSame {w : World} {base J D : Nat} {vE v : Value} {es b : List Int} {s m : Int} (h : JS w base J D vE v es b s m) : JS (w.setCell ⟨J, 1, none⟩ vE) base J D vE v es b s m := by
  have hne : ∀ k, vE.ownBlock = some k → k ≠ J := fun k hk e => by
    obtain ⟨_, cs, hc⟩ := h.typ k hk
    subst e
    rw [show w.heap[k]? = _ from h.jat] at hc
    cases hc
  obtain ⟨A, c, rfl, hc, hC⟩ := h.row
  exact ⟨h.jat.put1 _, ⟨A, c, rfl, hc, C_typ hC (fun k hk => Below.heap_setCell _ _ _ _ (hne k hk))⟩, fun k hk => ⟨(h.typ k hk).1, by rw [Below.heap_setCell _ _ _ _ (show k ≠ J from hne k hk)]; exact (h.typ k hk).2⟩, disk_store h.disk h.neD h.neV, h.jge⟩
theorem JStep.put {w w1 : World} {J D : Nat} {v v' vE vE' : Value} (h : JStep w w1 J D v v' vE vE') (u uE : Value) (hE : uE.ownBlock = vE.ownBlock ∨ uE.ownBlock = none ∨ ∃ b, uE.ownBlock = some b ∧ w.heap.size ≤ b) : JStep w (w1.setCell ⟨J, 1, none⟩ u) J D v v' vE uE :=
  ⟨h.os, h.tape, h.output, by simpa [World.setCell] using h.size, fun k hk h1 h2 h3 => (Below.heap_setCell _ _ _ _ (by show k ≠ J; exact h1)).trans (h.block k hk h1 h2 h3), h.row, hE⟩
/-- The places that the walk has. -/
def EndsAt (w : World) (n0 i : Nat) (vE vS : Value) (zs : List Int) : Prop := (i = 0 ∧ vS = vE) ∨ IR w n0 vS zs

set_option maxHeartbeats 16000000 in
theorem jappend_is {w : World} {base J D : Nat} {vE v : Value} {es b : List Int} {s m : Int} (h : JS w base J D vE v es b s m) (A0 : Option Addr) (c0 : Nat) (l : List K.S26) (hC : Kd.C K.k26 w A0 l.length l) (hc : l.length ≤ c0) (hl : l.length ≤ 1048576) (hes : es.length ≤ 1048576) :
    Calls Try.prog 76 #[.pointer (some ⟨J, 0, none⟩), .slice A0 l.length c0] w fun e w' => e = .returned (.int .i64 (jappE m b l)) ∧ ∃ vE' v', JS w' base J D vE' v' (jappEs m b es l) (jappL m b l) s m ∧ JStep w w' J D v v' vE vE' := by
  obtain ⟨E, hE⟩ : ∃ E, jErr l = E := ⟨_, rfl⟩
  obtain ⟨R, hR⟩ : ∃ R, jappE m b l = R := ⟨_, rfl⟩
  obtain ⟨RE, hRE⟩ : ∃ RE, jappEs m b es l = RE := ⟨_, rfl⟩
  obtain ⟨RL, hRL⟩ : ∃ RL, jappL m b l = RL := ⟨_, rfl⟩
  rw [hR, hRE, hRL]
  have HE := Lib.hid hE
  have HR := Lib.hid hR
  have HRE := Lib.hid hRE
  have HRL := Lib.hid hRL
  have H := Lib.hid h
  have HC := Lib.hid hC
  have hJw := h.lt
  have hjb := h.jge
  have hbl : b.length ≤ 262144 := by have := h.disk.len; have := h.disk.m1; omega
  have c1 := h.jat.c1
  obtain ⟨AE, cE, rfl, _, _⟩ := h.row
  clear hE hR hRE hRL h hC
  go_enter Try.func76, Try.ntmps76
  go_wp2_with (go_at_call 137; refine (jnone_is H.out).mono ?_; rintro e w' ⟨rfl, rfl⟩)
  go_loopg [5, 6, 20] l.length (fun g s5 s6 s20 wr => ∃ (i : Nat) (vA vS : Value), vA = s5 ∧ vS = s6 ∧ s20 = .int .i64 i ∧ i ≤ l.length ∧ g = l.length - i ∧ Hid (jErr (l.drop i) = E) ∧ Hid (∀ x ∈ l.take i, Fine x) ∧ Hid (BR wr w.heap.size vA (flatE (l.take i))) ∧ Hid (EndsAt wr w.heap.size i (.slice AE es.length cE) vS (es ++ endsE b.length (l.take i))) ∧ Hid (Below w.heap.size w wr))
  case atStart => exact ⟨0, _, _, rfl, rfl, rfl, Nat.zero_le _, rfl, Lib.hid (by rw [List.drop_zero]; exact HE.out), Lib.hid (by intro x hx; simp at hx), Lib.hid (Kd.R_nil _ _ _ _ _), Lib.hid (.inl ⟨rfl, rfl⟩), Lib.hid (Below.refl _ _)⟩
  case round =>
    obtain ⟨i, vA, vS, rfl, rfl, rfl, hi, hg, HEI, HF, HA, HS, HB⟩ := hrel
    obtain ⟨A5, c5, rfl, _, _⟩ := BR.len HA.out
    have hJS := H.out.below HB.out (Nat.le_refl _)
    have HJR := Lib.hid hJS
    obtain ⟨zs, hzs⟩ : ∃ zs, es ++ endsE b.length (l.take i) = zs := ⟨_, rfl⟩
    have hzl : zs.length ≤ 2097152 := by rw [← hzs, List.length_append, endsE_length, List.length_take]; omega
    rw [hzs] at HS
    have hrow : ∃ A6 c6, vS = .slice A6 zs.length c6 ∧ zs.length ≤ c6 ∧ Kd.C (Kd.int .i64) wr A6 zs.length zs := by
      rcases HS.out with ⟨h0, h1⟩ | h1
      · obtain ⟨A, c, e, h3, h4⟩ := hJS.row
        have hz : zs = es := by rw [← hzs, h0]; simp [endsE]
        rw [hz]
        exact ⟨A, c, h1.trans e, h3, h4⟩
      · exact IR.len h1
    obtain ⟨A6, c6, rfl, hc6, hC6⟩ := hrow
    have HC6 := Lib.hid hC6
    have HZS := Lib.hid hzs
    have cD := hJS.jat.c0
    clear hJS hzs hC6
    by_cases hlt : i < l.length
    · have hCi := Kd.C_below HC.out HB.out
      obtain ⟨ad, A8, c8, ea, a0, a1, a2, a3, a4, a5, a6, a7, a8, a9, l8, g8⟩ := K.at_T26 hCi (i : Int) (by omega) (by omega)
      subst ea
      have hrd : K.rd_T26 l (i : Int) = l[i] := by unfold K.rd_T26; rw [Int.toNat_natCast, List.getD_eq_getElem?_getD, List.getElem?_eq_getElem hlt]; rfl
      have hdr : l.drop i = l[i] :: l.drop (i + 1) := List.drop_eq_getElem_cons hlt
      have htk : l.take (i + 1) = l.take i ++ [l[i]] := List.take_succ_eq_append_getElem hlt
      have hEI := HEI.out
      rw [hdr, jErr] at hEI
      rw [hrd] at a0 a1 a2 a3 a4 a5 a6 a7 a8 a9 l8 g8
      rw [Int.toNat_natCast] at a0 a1 a2 a3 a4 a5 a6 a7 a8 a9
      generalize l[i] = x at hEI htk a0 a1 a2 a3 a4 a5 a6 a7 a8 a9 l8 g8
      have HTK := Lib.hid htk
      clear hrd hdr HEI hCi htk
      have hbx : Below wr.heap.size wr (wr.alloc (entO x A8 c8)) := (Below.refl _ _).alloc (Nat.le_refl _) _
      have HD := Lib.hid (frame_is x A8 c8 (wr.alloc (entO x A8 c8)) (Kd.C_below g8 hbx) l8)
      have HBX := Lib.hid hbx
      have HEI := Lib.hid hEI
      clear hbx g8 hEI
      by_cases h0 : frameErr x = 0
      · have hD := HD.out
        rw [if_pos h0, h0] at hD
        have HD2 := Lib.hid hD
        have HN : Hid (jErr (l.drop (i + 1)) = E) := Lib.hid (by have := HEI.out; rwa [if_pos h0] at this)
        have HF2 : Hid (∀ y ∈ l.take (i + 1), Fine y) := Lib.hid (by
          rw [HTK.out]
          intro y hy
          rcases List.mem_append.1 hy with hy | hy
          · exact HF.out y hy
          · rw [List.mem_singleton.1 hy]; exact frameErr_fine.1 h0)
        obtain ⟨fl, hfl⟩ : ∃ fl, flatE (l.take i) = fl := ⟨_, rfl⟩
        obtain ⟨al, hal⟩ : ∃ al, flatE (l.take (i + 1)) = al := ⟨_, rfl⟩
        have hal2 : al = fl ++ entF x := by rw [← hal, ← hfl, HTK.out, flatE_snoc]
        have hall : al.length ≤ 137438953472 := by
          have h1 := flat_len_fine HF2.out
          rw [hal, List.length_take] at h1
          have : min (i + 1) l.length ≤ 1048576 := by omega
          have := Nat.mul_le_mul_right 65543 this
          omega
        have hfll : fl.length + (entF x).length ≤ 137438953472 := by rw [hal2, List.length_append] at hall; exact hall
        rw [hfl] at HA ⊢
        have HAL := Lib.hid hal
        have HAL2 := Lib.hid hal2.symm
        clear HD HEI h0 hD hal hal2 hfl
        obtain ⟨fx, hfx⟩ : ∃ fx, entF x = fx := ⟨_, rfl⟩
        rw [hfx] at HD2 HAL2 hfll
        clear hfx
        go_upto_region 12 with (first
          | (go_at_call 139; refine HD2.out.mono ?_; rintro e w2 ⟨v2, rfl, hr, hb⟩; obtain ⟨A2, k2, rfl, hk2, hC2⟩ := BR.len hr; have HC2 := Lib.hid hC2; have HB2 := Lib.hid (HBX.out.trans (hb.mono HBX.out.size)); clear hr hb hC2 hk2)
          | (at_builtin; refine BR.append_ev2 (w := w2) (base := w.heap.size) (Kd.R_below HA.out HB2.out) HC2.out rfl (.tmp 32) (.tmp 33) rfl rfl rfl (Nat.le_trans HB.out.size HB2.out.size) (by omega) ?_; intro v3 w3 hr3 hb3 hg3; rw [HAL2.out] at hr3; obtain ⟨A3, k3, rfl, _, _⟩ := BR.len hr3; have HR3 := Lib.hid hr3; have HB3 := Lib.hid ((HB.out.trans (HB2.out.mono HB.out.size)).trans hb3); have HG3 := Lib.hid hg3; clear hr3 hb3 hg3))
        have HTA := Lib.hid (R_typ (Kd.R_below HA.out HB2.out))
        have HGE := Lib.hid (R_ge HA.out)
        have hm3 : ∀ k, k < wr.heap.size → (∀ cs, wr.heap[k]? ≠ some (.cells cs 5 (0, 0))) → w3.heap[k]? = wr.heap[k]? := fun k hk hn => by
          have h1 := HB2.out.block k hk
          refine (HG3.out.block k (Nat.lt_of_lt_of_le hk HB2.out.size) (fun e => ?_)).trans h1
          obtain ⟨cs, hcs⟩ := HTA.out k e.symm
          exact hn cs (by rw [← h1]; exact hcs)
        have hJ3 := (H.out.below HB3.out (Nat.le_refl _))
        have HJ3 := Lib.hid hJ3
        have HC63 : Hid (Kd.C (Kd.int .i64) w3 A6 zs.length zs) := Lib.hid (by
          rcases HS.out with ⟨h0, h1⟩ | h1
          · obtain ⟨A, c, e, h3, h4⟩ := hJ3.row
            have hz : zs = es := by rw [← HZS.out, h0]; simp [endsE]
            rw [hz] at h1 ⊢
            cases h1
            cases e
            exact h4
          · have h2 : IR w3 w.heap.size (.slice A6 zs.length c6) zs := R_typed (Kd.R_below h1 HB2.out) (t := 5) (by decide) HG3.out HTA.out
            obtain ⟨A, c, e, h3, h4⟩ := IR.len h2
            cases e
            exact h4)
        have hbd : Below w3.heap.size w3 w3.drew := below_drew1 (Below.refl _ _)
        have HJ0 := Lib.hid (hJ3.below hbd (Nat.le_refl _))
        have HC0 := Lib.hid (Kd.C_below HC63.out hbd)
        have HR0 := Lib.hid (Kd.R_below HR3.out hbd)
        have HB0 := Lib.hid (HB3.out.trans (hbd.mono HB3.out.size))
        clear hm3 hJ3 hbd a0 a1 a2 a3 a4 a5 a6 a7 a8 a9 cD HC6 HC2 HD2 HA HS HBX
        have hwr : wrap64 ((b.length : Int) + (al.length : Int)) = (b.length : Int) + (al.length : Int) := by unfold wrap64; omega
        refine start_ (n := 17) (S := fun w' => w'.cell? ⟨J, 0, none⟩ = some (.pointer (some ⟨D, 0, none⟩))) (ds := []) #[false, false, false, false, false, false, false, false, false, false, false, false, false, false, false, false, false] (by kernel_rfl) rfl rfl HJ0.out.jat.c0 (fun hHeld => ?_); refine with_tabW jaR12.tab jaR12.bits (fun HT_ HW_ => ?_)
        obtain ⟨WD, hWD⟩ : ∃ X, w3.drew = X := ⟨_, rfl⟩
        rw [hWD] at hHeld HJ0 HC0 HR0 HB0 ⊢
        clear hWD
        refine pure_ (i := 0) (N := (some 35)) (v := ?_) (a' := ?_) #[true, false, false, false, false, false, false, false, false, false, false, false, false, false, false, false, false] rfl rfl (any_of HT_.out (by kernel_rfl)) (fun _ _ _ h => h) (Or.inl ⟨by rfl, ?_⟩) ?_ ?_
        rotate_left
        · intro w'
          go_simp
          with_reducible rfl
        rotate_left
        · simp only [Act.put, List.setIfInBounds_toArray, List.set_cons_zero, List.set_cons_succ, i64_w, i32_w]
          rfl
        refine pure_ (i := 1) (N := (some 36)) (v := ?_) (a' := ?_) #[true, true, false, false, false, false, false, false, false, false, false, false, false, false, false, false, false] rfl rfl (any_of HT_.out (by kernel_rfl)) (fun _ _ _ h => h) (Or.inl ⟨by rfl, ?_⟩) ?_ ?_
        rotate_left
        · intro w'
          go_simp
          with_reducible rfl
        rotate_left
        · simp only [Act.put, List.setIfInBounds_toArray, List.set_cons_zero, List.set_cons_succ, i64_w, i32_w]
          rfl
        refine pure_ (i := 2) (N := (some 37)) (v := ?_) (a' := ?_) #[true, true, true, false, false, false, false, false, false, false, false, false, false, false, false, false, false] rfl rfl (any_of HT_.out (by kernel_rfl)) (fun _ _ _ h => h) (Or.inl ⟨by rfl, ?_⟩) ?_ ?_
        rotate_left
        · intro w'
          go_simp
          with_reducible rfl
        rotate_left
        · simp only [Act.put, List.setIfInBounds_toArray, List.set_cons_zero, List.set_cons_succ, i64_w, i32_w]
          rfl
        refine pure_ (i := 3) (N := (some 38)) (v := ?_) (a' := ?_) #[true, true, true, true, false, false, false, false, false, false, false, false, false, false, false, false, false] rfl rfl (any_of HT_.out (by kernel_rfl)) (fun _ _ _ h => h) (Or.inl ⟨by rfl, ?_⟩) ?_ ?_
        rotate_left
        · intro w'
          go_simp
          with_reducible rfl
        rotate_left
        · simp only [Act.put, List.setIfInBounds_toArray, List.set_cons_zero, List.set_cons_succ, i64_w, i32_w]
          rfl
        refine pure_ (i := 4) (N := (some 39)) (v := ?_) (a' := ?_) #[true, true, true, true, true, false, false, false, false, false, false, false, false, false, false, false, false] rfl rfl (any_of HT_.out (by kernel_rfl)) (fun _ _ _ h => h) (Or.inl ⟨by rfl, ?_⟩) ?_ ?_
        rotate_left
        · intro w'
          go_simp
          with_reducible rfl
        rotate_left
        · simp only [Act.put, List.setIfInBounds_toArray, List.set_cons_zero, List.set_cons_succ, i64_w, i32_w]
          rfl
        refine pure_ (i := 5) (N := (some 40)) (v := ?_) (a' := ?_) #[true, true, true, true, true, true, false, false, false, false, false, false, false, false, false, false, false] rfl rfl (any_of HT_.out (by kernel_rfl)) (fun _ _ _ h => h) (Or.inl ⟨by rfl, ?_⟩) ?_ ?_
        rotate_left
        · intro w'
          go_simp
          with_reducible rfl
        rotate_left
        · simp only [Act.put, List.setIfInBounds_toArray, List.set_cons_zero, List.set_cons_succ, i64_w, i32_w]
          rfl
        refine pure_ (i := 6) (N := (some 41)) (v := ?_) (a' := ?_) #[true, true, true, true, true, true, true, false, false, false, false, false, false, false, false, false, false] rfl rfl (any_of HT_.out (by kernel_rfl)) (fun _ _ _ h => h) (Or.inl ⟨by rfl, ?_⟩) ?_ ?_
        rotate_left
        · intro w'
          go_simp
          with_reducible rfl
        rotate_left
        · simp only [Act.put, List.setIfInBounds_toArray, List.set_cons_zero, List.set_cons_succ, i64_w, i32_w]
          rfl
        refine pure_ (i := 7) (N := (some 42)) (v := ?_) (a' := ?_) #[true, true, true, true, true, true, true, true, false, false, false, false, false, false, false, false, false] rfl rfl (any_of HT_.out (by kernel_rfl)) (fun _ _ _ h => h) (Or.inl ⟨by rfl, ?_⟩) ?_ ?_
        rotate_left
        · intro w'
          go_simp
          with_reducible rfl
        rotate_left
        · simp only [Act.put, List.setIfInBounds_toArray, List.set_cons_zero, List.set_cons_succ, i64_w, i32_w]
          rfl
        refine pure_ (i := 8) (N := (some 43)) (v := ?_) (a' := ?_) #[true, true, true, true, true, true, true, true, true, false, false, false, false, false, false, false, false] rfl rfl (any_of HT_.out (by kernel_rfl)) (fun _ _ _ h => h) (Or.inl ⟨by rfl, ?_⟩) ?_ ?_
        rotate_left
        · intro w'
          go_simp
          with_reducible rfl
        rotate_left
        · simp only [Act.put, List.setIfInBounds_toArray, List.set_cons_zero, List.set_cons_succ, i64_w, i32_w]
          rfl
        refine pure_ (i := 11) (N := (some 46)) (v := ?_) (a' := ?_) #[true, true, true, true, true, true, true, true, true, false, false, true, false, false, false, false, false] rfl rfl (any_of HT_.out (by kernel_rfl)) (fun _ _ _ h => h) (Or.inl ⟨by rfl, ?_⟩) ?_ ?_
        rotate_left
        · intro w'
          go_simp
          with_reducible rfl
        rotate_left
        · simp only [Act.put, List.setIfInBounds_toArray, List.set_cons_zero, List.set_cons_succ, i64_w, i32_w]
          rfl
        refine pure_ (i := 12) (N := (some 47)) (v := ?_) (a' := ?_) #[true, true, true, true, true, true, true, true, true, false, false, true, true, false, false, false, false] rfl rfl (any_of HT_.out (by kernel_rfl)) (fun _ _ _ h => h) (Or.inl ⟨by rfl, ?_⟩) ?_ ?_
        rotate_left
        · intro w'
          go_simp
          with_reducible rfl
        rotate_left
        · simp only [Act.put, List.setIfInBounds_toArray, List.set_cons_zero, List.set_cons_succ, i64_w, i32_w]
          rfl
        refine take_ (i := 9) (N := (some 44)) (v := ?_) (a' := ?_) #[true, true, true, true, true, true, true, true, true, true, false, true, true, false, false, false, false] rfl rfl (take_ofW HT_.out HW_.out (by kernel_rfl)) (fun _ _ _ h => h) (Or.inl ⟨by rfl, ?_⟩) hHeld ?_ ?_
        rotate_left
        · rintro w' s0
          go_simp
          with_reducible rfl
        rotate_left
        · simp only [Act.put, List.setIfInBounds_toArray, List.set_cons_zero, List.set_cons_succ, i64_w, i32_w]
          rfl
        refine one_ (i := 10) (N := (some 45)) #[true, true, true, true, true, true, true, true, true, true, true, true, true, false, false, false, false] rfl rfl (one_of HT_.out (by kernel_rfl)) (by decide) (fun K hK => ?_)
        refine goes_ Try.func39 (by kernel_rfl) rfl #[.pointer (some ⟨D, 0, none⟩)] (by rfl) rfl rfl (by (try simp only [List.map_toArray, List.map_cons, List.map_nil]); first | done | rfl) ?_
        refine (len_is HJ0.out.disk).mono ?_
        rintro e w' ⟨rfl, rfl⟩
        refine ⟨_, rfl, ?_⟩
        refine hK.out _ _ HJ0.out.jat.c0 (fun hHeld => ?_)
        clear hK K
        refine norm_ (a' := ?_) ?_ ?_
        rotate_left
        · show Act.put _ (some 45) _ = _
          simp only [Act.put, List.setIfInBounds_toArray, List.set_cons_zero, List.set_cons_succ, i64_w, i32_w]
          rfl
        refine pure_ (i := 13) (N := (some 48)) (v := ?_) (a' := ?_) #[true, true, true, true, true, true, true, true, true, true, true, true, true, true, false, false, false] rfl rfl (any_of HT_.out (by kernel_rfl)) (fun _ _ _ h => h) (Or.inl ⟨by rfl, ?_⟩) ?_ ?_
        rotate_left
        · intro w'
          go_simp
          with_reducible rfl
        rotate_left
        · simp only [Act.put, List.setIfInBounds_toArray, List.set_cons_zero, List.set_cons_succ, i64_w, i32_w]
          rfl
        refine one_ (i := 14) (N := (some 49)) #[true, true, true, true, true, true, true, true, true, true, true, true, true, true, true, false, false] rfl rfl (one_of HT_.out (by kernel_rfl)) (by decide) (fun K hK => ?_)
        refine value_ (w1 := WD.alloc (.cells #[.int .i64 ((b.length : Int) + (al.length : Int))] 3)) (v := .slice (some ⟨WD.heap.size, 0, none⟩) 1 1) (by rfl) rfl ?_ ?_
        · go_simp
          first | done | rfl | rw [hwr]
        refine hK.out _ _ (HJ0.out.below ((Below.refl WD.heap.size WD).alloc (Nat.le_refl _) (.cells #[.int .i64 ((b.length : Int) + (al.length : Int))] 3)) (Nat.le_refl _)).jat.c0 (fun hHeld => ?_)
        clear hK K
        refine norm_ (a' := ?_) ?_ ?_
        rotate_left
        · show Act.put _ (some 49) _ = _
          simp only [Act.put, List.setIfInBounds_toArray, List.set_cons_zero, List.set_cons_succ, i64_w, i32_w]
          rfl
        refine one_ (i := 15) (N := (some 50)) #[true, true, true, true, true, true, true, true, true, true, true, true, true, true, true, true, false] rfl rfl (one_of HT_.out (by kernel_rfl)) (by decide) (fun K hK => ?_)
        obtain ⟨v5, w5, hrun, hI, hB5⟩ := IR.full WD 42 A6 zs ((b.length : Int) + (al.length : Int)) HC0.out (by omega)
        obtain ⟨z2, hz2⟩ : ∃ z2, zs ++ [((b.length : Int) + (al.length : Int))] = z2 := ⟨_, rfl⟩
        rw [hz2] at hI
        have HZ2 := Lib.hid hz2
        clear hz2
        obtain ⟨A7, k7, rfl, _, _⟩ := IR.len hI
        refine value_ (w1 := w5) (v := _) (by rfl) rfl (append_value (s := .tmp 40) (x := .tmp 49) rfl rfl rfl hrun) ?_
        have HR5 := Lib.hid (Kd.R_below HR0.out hB5)
        refine hK.out _ _ (HJ0.out.below hB5 (Nat.le_refl _)).jat.c0 (fun hHeld => ?_)
        clear hK K
        refine norm_ (a' := ?_) ?_ ?_
        rotate_left
        · show Act.put _ (some 50) _ = _
          simp only [Act.put, List.setIfInBounds_toArray, List.set_cons_zero, List.set_cons_succ, i64_w, i32_w]
          rfl
        refine pure_ (i := 16) (N := (some 6)) (v := ?_) (a' := ?_) #[true, true, true, true, true, true, true, true, true, true, true, true, true, true, true, true, true] rfl rfl (any_of HT_.out (by kernel_rfl)) (fun _ _ _ h => h) (Or.inl ⟨by rfl, ?_⟩) ?_ ?_
        rotate_left
        · intro w'
          go_simp
          with_reducible rfl
        rotate_left
        · simp only [Act.put, List.setIfInBounds_toArray, List.set_cons_zero, List.set_cons_succ, i64_w, i32_w]
          rfl
        refine done_ (done_of HT_.out (by kernel_rfl)) ?_
        have HIR := Lib.hid hI
        clear hwr
        have hB5 := HB0.out.trans (hB5.mono HB0.out.size)
        have HB5 := Lib.hid hB5
        clear hI hB5 hrun
        go_wp2
        go_roundg (l.length - (i + 1))
        case measure => omega
        case rel => exact ⟨i + 1, _, _, rfl, rfl, by go_num, by omega, rfl, HN, HF2, Lib.hid (by rw [HAL.out]; exact HR5.out), Lib.hid (.inr (by rw [HTK.out, endsE_snoc, ← List.append_assoc, HZS.out, ← HTK.out, HAL.out, Int.natCast_add, HZ2.out]; exact Kd.R_lower HIR.out HB0.out.size)), HB5⟩
      · have hD := HD.out
        rw [if_neg h0] at hD
        have hN : frameErr x = E := by have := HEI.out; rwa [if_neg h0] at this
        rw [hN] at hD h0
        have t0 : (E != 0) = true := by simpa using h0
        have hRE : R = E := by rw [← HR.out]; unfold jappE; rw [HE.out, if_neg h0]
        have hRL : RL = b := by rw [← HRL.out]; unfold jappL; rw [HE.out, if_neg h0]
        have hREs : RE = es := by rw [← HRE.out]; unfold jappEs; rw [HR.out, hRE, if_neg h0]
        subst hRE hRL hREs
        have HD2 := Lib.hid hD
        clear HD HEI hD hN h0
        go_wp2_with (go_at_call 139; refine HD2.out.mono ?_; rintro e w2 ⟨v2, rfl, hr, hb⟩; obtain ⟨A2, k2, rfl, hk2, hC2⟩ := BR.len hr; have HB2 := Lib.hid (HB.out.trans ((HBX.out.trans (hb.mono HBX.out.size)).mono HB.out.size)); clear hr hb hC2 hk2)
        go_ret
        exact ⟨rfl, _, _, H.out.below HB2.out (Nat.le_refl _), JStep.of_below _ _ _ _ HB2.out⟩
    · obtain rfl : i = l.length := by omega
      have hE0 : E = 0 := by have := HEI.out; rw [List.drop_length] at this; exact this.symm
      subst hE0
      rw [List.take_length] at HA ⊢
      have hzs := HZS.out
      rw [List.take_length] at hzs
      have hRE : R = appE m b (flatE l) := by rw [← HR.out]; unfold jappE; rw [HE.out, if_pos rfl]
      have hRL : RL = appL m b (flatE l) := by rw [← HRL.out]; unfold jappL; rw [HE.out, if_pos rfl]
      have hREs : RE = if appE m b (flatE l) = 0 then zs else es := by rw [← HRE.out, ← hzs]; unfold jappEs; rw [HR.out, hRE]
      obtain ⟨A5', c5', e5, _, hC5⟩ := BR.len HA.out
      obtain ⟨fl, hfl⟩ : ∃ fl, flatE l = fl := ⟨_, rfl⟩
      rw [hfl] at HA hRE hRL hREs e5 hC5 ⊢
      cases e5
      have HAP := Lib.hid (append_any HJR.out.disk A5 c5 hC5)
      rw [← hRE, ← hRL] at HAP
      rw [← hRE] at hREs
      have HRZ := Lib.hid hREs
      clear hzs hRE hRL hREs hC5 hfl
      by_cases hR0 : R = 0
      · have hz : RE = zs := by rw [HRZ.out, if_pos hR0]
        subst hR0
        have HRZ2 := Lib.hid hz
        clear HRZ hz
        go_upto_region 17 with (go_at_call 29; refine HAP.out.mono ?_; rintro e w2 ⟨rfl, v2, hd, hst⟩; have HJ2 := Lib.hid (HJR.out.acted hst hd); have HST := Lib.hid hst; clear hd hst)
        have cf := HJ2.out.jat.f 1
        have cc := HJ2.out.jat.c1
        have hfin : JS (w2.setCell ⟨J, 1, none⟩ (.slice A6 zs.length c6)) base J D (.slice A6 zs.length c6) v2 RE RL s m ∧ ((Value.slice A6 zs.length c6).ownBlock = (Value.slice AE es.length cE).ownBlock ∨ (Value.slice A6 zs.length c6).ownBlock = none ∨ ∃ b, (Value.slice A6 zs.length c6).ownBlock = some b ∧ w.heap.size ≤ b) := by
          rw [HRZ2.out]
          rcases HS.out with ⟨h0, h1⟩ | h1
          · have hz : zs = es := by rw [← HZS.out, h0]; simp [endsE]
            rw [hz] at h1 ⊢
            rw [h1]
            exact ⟨HJ2.out.storeSame, .inl rfl⟩
          · have hI : IR w2 w.heap.size (.slice A6 zs.length c6) zs := HST.out.R h1 H.out.disk.cells.lt (fun k hk => (H.out.disk.row.block hk).2.1)
            refine ⟨HJ2.out.storeE hI hJw (by omega), ?_⟩
            rcases hq : (Value.slice A6 zs.length c6).ownBlock with _ | k
            · exact .inr (.inl rfl)
            · exact .inr (.inr ⟨k, rfl, R_ge hI k hq⟩)
        have HFIN := Lib.hid hfin
        clear hfin
        go_wp2
        go_ret
        exact ⟨rfl, _, _, HFIN.out.1, ((JStep.of_below J D _ _ HB.out).trans (JStep.of_disk J _ HST.out)).put _ _ HFIN.out.2⟩
      · have t0 : (R != 0) = true := by simpa using hR0
        have hz : RE = es := by rw [HRZ.out, if_neg hR0]
        have HRZ2 := Lib.hid hz
        clear HRZ hz hR0
        go_wp2_with (go_at_call 29; refine HAP.out.mono ?_; rintro e w2 ⟨rfl, v2, hd, hst⟩; have HJ2 := Lib.hid (HJR.out.acted hst hd); have HST := Lib.hid hst; clear hd hst)
        go_ret
        exact ⟨rfl, _, _, by rw [HRZ2.out]; exact HJ2.out, (JStep.of_below J D _ _ HB.out).trans (JStep.of_disk J _ HST.out)⟩
end Go.Proofs.Ytmbnjgnmblgjoaa.Man
end

-- Ent18
section
/- Law 18's own comparisons at equal arguments: true. Printed by wip/tools/gen_ent18.py. -/

namespace Go.Proofs.Ytmbnjgnmblgjoaa.Man
open Go.RowKit Go.Proofs.YtmbnjgnmblgjoaaW.PrintWords Go.Proofs.YtmbnjgnmblgjoaaW.PrintLast Go.Proofs.YtmbnjgnmblgjoaaW.PrintMore
set_option linter.unusedVariables false
set_option linter.unusedSimpArgs false
set_option maxRecDepth 100000
attribute [local go_sem high] K.eqA111

def ent18R6.T : Bool × List (List Nat × List Nat) := (true, [([], []), ([], []), ([0, 1], [0, 1]), ([2], [2]), ([3], [3]), ([], []), ([], []), ([5, 6], [5, 6]), ([7], [7]), ([8], [8]), ([4, 9], [4, 9]), ([10], [10]), ([11], [11]), ([11], [11]), ([12, 13, 11], [11, 12, 13]), ([14, 11], [11, 14]), ([15, 11], [11, 15]), ([11], [11]), ([11], [11]), ([17, 18, 11], [11, 17, 18]), ([19, 11], [11, 19]), ([20, 11], [11, 20]), ([16, 21, 11], [11, 16, 21]), ([11, 22], [11, 22]), ([23, 11], [23]), ([24], [24]), ([24], [24]), ([25, 26, 24], [24, 25, 26]), ([27, 24], [24, 27]), ([28, 24], [24, 28]), ([24], [24]), ([24], [24]), ([30, 31, 24], [24, 30, 31]), ([32, 24], [24, 32]), ([33, 24], [24, 33]), ([29, 34, 24, 24], [24, 29, 34]), ([35, 24], [24, 35]), ([24, 36], [24, 36])])
def ent18R6.B : List Nat := [0, 0, 3, 7, 15, 0, 0, 96, 224, 480, 1023, 2047, 4095, 4095, 16383, 32767, 65535, 4095, 4095, 397311, 921599, 1970175, 4194303, 8388607, 16777215, 33554431, 33554431, 134217727, 268435455, 536870911, 33554431, 33554431, 3254779903, 7549747199, 16139681791, 34359738367, 68719476735, 137438953471]
end Go.Proofs.Ytmbnjgnmblgjoaa.Man
end

-- JAll
section
/- The statement JournalAll, stepped through, for arguments that are not too large. -/




namespace Go.Proofs.Ytmbnjgnmblgjoaa.Man
open Go.RowKit Go.Shelf Go.Proofs.YtmbnjgnmblgjoaaW.PrintWords Go.Proofs.YtmbnjgnmblgjoaaW.PrintLast Go.Proofs.YtmbnjgnmblgjoaaW.PrintMore
set_option linter.unusedVariables false
set_option linter.unusedSimpArgs false
set_option maxRecDepth 100000

theorem jappE_ok {m : Int} {b : List Int} {l : List K.S26} (h : jappE m b l = 0) : (∀ x ∈ l, Fine x) ∧ jappL m b l = b ++ flatE l := by
  unfold jappE at h
  unfold jappL
  by_cases h0 : jErr l = 0
  · rw [if_pos h0] at h ⊢
    refine ⟨jErr_fine h0, ?_⟩
    unfold appE at h
    unfold appL
    by_cases h1 : ((flatE l).length : Int) ≤ m - (b.length : Int)
    · rw [if_pos h1]
    · rw [if_neg h1] at h; cases h
  · rw [if_neg h0] at h; exact absurd h h0
theorem jappE_no {m : Int} {b : List Int} {l : List K.S26} (h : jappE m b l ≠ 0) : jappL m b l = b := by
  unfold jappE at h
  unfold jappL
  by_cases h0 : jErr l = 0
  · rw [if_pos h0] at h ⊢
    unfold appE at h
    unfold appL
    by_cases h1 : ((flatE l).length : Int) ≤ m - (b.length : Int)
    · rw [if_pos h1] at h; exact absurd rfl h
    · rw [if_neg h1]
  · rw [if_neg h0]
theorem sum1_len (l : List K.S26) : l.length ≤ Open.sum1 (fun x : K.S26 => x.f2.f6.length + 1) l := by
  induction l with
  | nil => exact Nat.zero_le _
  | cons x l ih => rw [Open.sum1, List.length_cons]; omega

end Go.Proofs.Ytmbnjgnmblgjoaa.Man
end

-- JTwo
section
/- Two journals beside each other; what appending in one call or in two comes to. -/

namespace Go.Proofs.Ytmbnjgnmblgjoaa.Man
open Go.RowKit Go.Shelf Go.Proofs.YtmbnjgnmblgjoaaW.PrintWords Go.Proofs.YtmbnjgnmblgjoaaW.PrintLast Go.Proofs.YtmbnjgnmblgjoaaW.PrintMore
set_option linter.unusedVariables false
set_option linter.unusedSimpArgs false
set_option maxRecDepth 100000
section
variable {w w1 : World} {base J D J' D' : Nat} {vE v uE u v' u' vE' uE' : Value} {es b es' b' es2 b2 : List Int} {s m s' m' s2 m2 : Int}
theorem cells_ne {w : World} {k k' : Nat} {cs cs' : Array Value} {t t' : TypeId} {x x' : Nat × Nat} (h : w.heap[k]? = some (.cells cs t x)) (h' : w.heap[k']? = some (.cells cs' t' x')) (hne : t ≠ t') : k ≠ k' := fun e => by
  subst e
  rw [h] at h'
  cases h'
  exact hne rfl
/-- Another journal, on another disk, has acted. -/
theorem JS.otherJ (h : JS w base J D vE v es b s m) (k : JS w base J' D' uE u es' b' s' m') (st : JStep w w1 J' D' u u' uE uE') (hJ : J ≠ J') (hD : D ≠ D') (ha : Apart v u) : JS w1 base J D vE v es b s m := by
  have hu : ∀ (i : Nat) (cs : Array Value) (t : TypeId), w.heap[i]? = some (.cells cs t (0, 0)) → t ≠ 5 → some i ≠ u.ownBlock := fun i cs t hi ht e => by
    obtain ⟨_, _, cur, hc⟩ := k.disk.row.block e.symm
    rw [hi] at hc
    cases hc
    exact ht rfl
  refine h.move ?_ ?_ ?_
  · exact st.block _ h.lt hJ (cells_ne (show w.heap[J]? = _ from h.jat) (show w.heap[D']? = _ from k.disk.cells) (by decide)) (hu _ _ _ h.jat (by decide))
  · intro i hi
    obtain ⟨_, cs, hc⟩ := h.typ i hi
    exact st.block _ (h.elt i hi) (cells_ne hc (show w.heap[J']? = _ from k.jat) (by decide)) (cells_ne hc (show w.heap[D']? = _ from k.disk.cells) (by decide)) (hu _ _ _ hc (by decide))
  · refine { h.disk with cells := h.disk.cells.move (st.block _ h.disk.cells.lt (cells_ne (show w.heap[D]? = _ from h.disk.cells) (show w.heap[J']? = _ from k.jat) (by decide)) hD (hu _ _ _ h.disk.cells (by decide))), row := h.disk.row.move fun i hi => ?_ }
    obtain ⟨_, hlt, cur, hc⟩ := h.disk.row.block hi
    exact st.block _ hlt (cells_ne hc (show w.heap[J']? = _ from k.jat) (by decide)) (cells_ne hc (show w.heap[D']? = _ from k.disk.cells) (by decide)) (fun e => ha i hi e.symm)
theorem JStep.apart (st : JStep w w1 J D v v' vE vE') (h : Apart v u) {xs : List Int} (hu : DRow w base u xs) : Apart v' u := fun i hv hub => by
  rcases st.row with e | ⟨j, e, hj⟩
  · exact h i (by rw [← e]; exact hv) hub
  · rw [e] at hv
    cases hv
    have := (hu.block hub).2.1
    omega
/-- Two journals, apart. -/
structure JJ (w : World) (base J D : Nat) (vE v : Value) (es b : List Int) (s m : Int) (J' D' : Nat) (uE u : Value) (es' b' : List Int) (s' m' : Int) : Prop where
  one : JS w base J D vE v es b s m
  two : JS w base J' D' uE u es' b' s' m'
  nj : J ≠ J'
  nd : D ≠ D'
  ap : Apart v u
theorem JJ.below {n : Nat} (h : JJ w base J D vE v es b s m J' D' uE u es' b' s' m') (hb : Below n w w1) (hn : w.heap.size ≤ n) : JJ w1 base J D vE v es b s m J' D' uE u es' b' s' m' :=
  ⟨h.one.below hb hn, h.two.below hb hn, h.nj, h.nd, h.ap⟩
theorem JJ.act1 (h : JJ w base J D vE v es b s m J' D' uE u es' b' s' m') (st : JStep w w1 J D v v' vE vE') (hd : JS w1 base J D vE' v' es2 b2 s2 m2) : JJ w1 base J D vE' v' es2 b2 s2 m2 J' D' uE u es' b' s' m' :=
  ⟨hd, h.two.otherJ h.one st h.nj.symm h.nd.symm h.ap.symm, h.nj, h.nd, st.apart h.ap h.two.disk.row⟩
theorem JJ.act2 (h : JJ w base J D vE v es b s m J' D' uE u es' b' s' m') (st : JStep w w1 J' D' u u' uE uE') (hd : JS w1 base J' D' uE' u' es2 b2 s2 m2) : JJ w1 base J D vE v es b s m J' D' uE' u' es2 b2 s2 m2 :=
  ⟨h.one.otherJ h.two st h.nj h.nd h.ap, hd, h.nj, h.nd, (st.apart h.ap.symm h.one.disk.row).symm⟩
end
theorem jErr_append (b : List K.S26) : ∀ a : List K.S26, jErr (a ++ b) = if jErr a = 0 then jErr b else jErr a
  | [] => by simp [jErr]
  | x :: xs => by
    rw [List.cons_append, jErr, jErr, jErr_append b xs]
    by_cases h : frameErr x = 0
    · rw [if_pos h, if_pos h]
    · rw [if_neg h, if_neg h, if_neg h]
theorem joins_ok {M : Int} {a b : List K.S26} (h : jappE M [] (a ++ b) = 0) : jappE M [] a = 0 ∧ jappL M [] a = flatE a ∧ jappE M (flatE a) b = 0 ∧ jappL M (flatE a) b = flatE (a ++ b) ∧ jappL M [] (a ++ b) = flatE (a ++ b) := by
  have h1 := jappE_ok h
  unfold jappE at h
  by_cases h0 : jErr (a ++ b) = 0
  · rw [if_pos h0] at h
    rw [jErr_append] at h0
    by_cases ha : jErr a = 0
    · rw [if_pos ha] at h0
      unfold appE at h
      by_cases hl : ((flatE (a ++ b)).length : Int) ≤ M - (([] : List Int).length : Int)
      · rw [flatE_append, List.length_append, List.length_nil] at hl
        have e1 : jappE M [] a = 0 := by unfold jappE appE; rw [if_pos ha, if_pos (by rw [List.length_nil]; omega)]
        have e2 : jappE M (flatE a) b = 0 := by unfold jappE appE; rw [if_pos h0, if_pos (by omega)]
        exact ⟨e1, by rw [(jappE_ok e1).2, List.nil_append], e2, by rw [(jappE_ok e2).2, flatE_append], by rw [h1.2, List.nil_append]⟩
      · rw [if_neg hl] at h; cases h
    · rw [if_neg ha] at h0; exact absurd h0 ha
  · rw [if_neg h0] at h; exact absurd h h0
theorem joins_no {M : Int} {a b : List K.S26} (h : jappE M [] (a ++ b) ≠ 0) (ha : jappE M [] a = 0) : jappE M (jappL M [] a) b ≠ 0 := by
  intro hb
  have h1 := jappE_ok ha
  have h2 := jappE_ok hb
  rw [h1.2, List.nil_append] at hb
  apply h
  have e1 : jErr a = 0 := by
    unfold jappE at ha
    by_cases h0 : jErr a = 0
    · exact h0
    · rw [if_neg h0] at ha; exact absurd ha h0
  unfold jappE at hb
  by_cases h0 : jErr b = 0
  · rw [if_pos h0] at hb
    unfold appE at hb
    by_cases hl : ((flatE b).length : Int) ≤ M - ((flatE a).length : Int)
    · unfold jappE appE
      rw [jErr_append, if_pos e1, if_pos h0, if_pos (by rw [flatE_append, List.length_append, List.length_nil]; omega)]
    · rw [if_neg hl] at hb; cases hb
  · rw [if_neg h0] at hb; exact absurd hb h0
end Go.Proofs.Ytmbnjgnmblgjoaa.Man
end

-- Shared
section
/- A row of entries of the call's own, whose entries' tokens lie in elder memory that is only read. -/


namespace Go.Proofs.Ytmbnjgnmblgjoaa.Man
open Go.RowKit Go.Proofs.YtmbnjgnmblgjoaaW.PrintWords Go.Proofs.YtmbnjgnmblgjoaaW.PrintLast Go.Proofs.YtmbnjgnmblgjoaaW.PrintMore
set_option linter.unusedVariables false
set_option linter.unusedSimpArgs false
set_option maxRecDepth 100000

def SR (w0 w : World) (base : Nat) (v : Value) (xs : List K.S26) : Prop :=
  ∃ rows : List (List Value), rows.length = xs.length ∧ Kd.R (Kd.raw 10) 26 w base (fun _ => True) v rows ∧ ∀ (j : Nat) (x : K.S26) (c : List Value), xs[j]? = some x → rows[j]? = some c → K.k26.K w0 x c
theorem SR.empty (w0 W : World) (base : Nat) (hb : base ≤ W.heap.size) : SR w0 (W.alloc (.cells #[] 26)) base (.slice (some ⟨W.heap.size, 0, none⟩) 0 0) [] :=
  ⟨[], rfl, ⟨fun _ _ => trivial, [], by have := World.ownsRow_lit (base := base) (e := 26) (size := 10) W #[] 0 hb (by simp [maxLen]) (by simp); exact this, Reps.none _ _⟩, fun j x c h => by simp at h⟩
theorem SR.below {w0 w w1 : World} {base : Nat} {v : Value} {xs : List K.S26} (h : SR w0 w base v xs) (hb : Below w.heap.size w w1) : SR w0 w1 base v xs := by
  obtain ⟨rows, h1, h2, h3⟩ := h
  exact ⟨rows, h1, Kd.R_below h2 hb, h3⟩
theorem SR.C {w0 w : World} {base : Nat} {v : Value} {xs : List K.S26} (h : SR w0 w base v xs) (hb : Below w0.heap.size w0 w) : ∃ A c, v = .slice A xs.length c ∧ xs.length ≤ c ∧ Kd.C K.k26 w A xs.length xs := by
  obtain ⟨rows, hl, hR, hf⟩ := h
  obtain ⟨A, c, rfl, hc, hC⟩ := Kd.R_reads hR
  rw [hl] at hC hc ⊢
  refine ⟨A, c, rfl, hc, rfl, hC.2.1, fun hp => ?_⟩
  obtain ⟨ad, he, hcell⟩ := hC.2.2 hp
  refine ⟨ad, he, fun j p hj => ?_⟩
  have hjl : j < rows.length := by have := (List.getElem?_eq_some_iff.1 hj).1; omega
  obtain ⟨c', hcl, hK, hcc⟩ := hcell j _ (List.getElem?_eq_getElem hjl)
  have hk := hf j p _ hj (List.getElem?_eq_getElem hjl)
  refine ⟨c', hcl, ?_, hcc⟩
  rw [show c' = rows[j] from hK.1]
  exact K.k26.K_below hb hk
theorem SR.append_ev {ops : Array Oper} {rest : List Oper} {o : Oper} {a : Act} {Q : Exit → Act → World → Prop} {w0 w : World} {base : Nat} {v : Value} {xs ys : List K.S26} {A : Option Addr} {m c : Nat}
    (h : SR w0 w base v xs) (HR : Kd.C K.k26 w0 A m ys) (h0 : Below w0.heap.size w0 w) (hgd : o.guard = none) (s x : Operand) (ho : o.op = .call { callee := .builtin .append, args := #[s, x], argTypes := #[69, 69] })
    (hs : a.eval s = v) (hx : a.eval x = .slice A m c) (hbase : base ≤ w.heap.size) (hl : (xs.length + m) * 96 ≤ 140737488355328)
    (k : ∀ v1 w1, SR w0 w1 base v1 (xs ++ ys) → Below base w w1 → wpList Try.prog ops Q rest (a.put o.dst v1) w1) : wpList Try.prog ops Q (o :: rest) a w := by
  obtain ⟨rows, hlr, hR, hf⟩ := h
  have hRR : ReadsRow (K.k26.K w0) 10 w A m ys := ReadsRow.imp_ (show ReadsRow (K.k26.K w0) 10 w0 A m ys from HR) h0 (fun _ _ hp => hp)
  obtain ⟨news, hnl, hnr, hnf⟩ := Kd.reads_raw hRR (fun y c hk => ⟨K.k26.K_len hk, K.k26.K_one hk⟩)
  refine Kd.R_append_rows (Kd.raw 10) (w0 := w) base hgd s x 69 26 (.agg #[.int .i64 0, .int .i64 0, .int .i64 0, .int .i64 0, .int .i64 0, .int .i64 0, .int .i64 0, .int .i64 0, .slice none 0 0, .int .i64 0]) 96 ho Try.underlying69 info_ent rfl (by decide) (by decide) v rows news A m c (fun _ => True) (fun _ => False) hs hx hR hnr (fun _ _ hk => hk) (fun _ hk => hk.elim) (fun _ _ => trivial) (Below.refl _ _) hbase (by rw [hlr]; exact hl) ?_
  intro v1 w1 hr hb hg hat
  refine k v1 w1 ⟨rows ++ news, by rw [List.length_append, List.length_append, hlr, hnl], hr, fun j x c hj hc => ?_⟩ hb
  by_cases hjl : j < xs.length
  · rw [List.getElem?_append_left hjl] at hj
    rw [List.getElem?_append_left (by omega)] at hc
    exact hf j x c hj hc
  · rw [List.getElem?_append_right (by omega)] at hj
    rw [List.getElem?_append_right (by omega), hlr] at hc
    exact hnf _ x c hj hc
end Go.Proofs.Ytmbnjgnmblgjoaa.Man
end

-- JJoins
section
/- The statement JournalJoins, stepped through, for arguments that are not too large. Printed by wip/tools/gen_jjoins.py. -/


namespace Go.Proofs.Ytmbnjgnmblgjoaa.Man
open Go.RowKit Go.Shelf Go.Proofs.YtmbnjgnmblgjoaaW.PrintWords Go.Proofs.YtmbnjgnmblgjoaaW.PrintLast Go.Proofs.YtmbnjgnmblgjoaaW.PrintMore
set_option linter.unusedVariables false
set_option linter.unusedSimpArgs false
set_option maxRecDepth 100000
def jjR12.T : Bool × List (List Nat × List Nat) := (true, [([], []), ([0], [0]), ([1], [1]), ([2], [2]), ([3, 2], [2, 3]), ([2, 4], [2, 4]), ([5, 2], [5]), ([6], [6]), ([7, 6, 6], [6, 7]), ([8, 6], [6, 8]), ([6], [6]), ([10, 8, 6], [6, 10]), ([11, 6], [6, 11]), ([9, 12, 6], [6, 9, 12]), ([6, 13], [6, 13]), ([14, 11], [14]), ([15], [15]), ([16, 15, 15], [15, 16]), ([15], [15]), ([18, 17, 15], [15, 18]), ([17, 19, 15], [15, 17, 19]), ([15, 20], [15, 20]), ([21, 19], [21]), ([22, 22], [22]), ([22, 23], [22, 23]), ([24, 23, 0, 1, 2, 3, 4, 5, 6, 7, 8, 9, 10, 11, 12, 13, 14, 15, 16, 17, 18, 19, 20, 21, 22, 23, 24], [24])])
def jjR12.B : List Nat := [0, 1, 3, 7, 15, 31, 63, 127, 255, 511, 127, 1535, 3583, 8191, 16383, 32767, 65535, 131071, 65535, 524287, 1048575, 2097151, 4194303, 8388607, 16777215, 33554431]
theorem jjR12.tab : rtab .any (opsOf Try.f15 12) = jjR12.T := by kernel_rfl
theorem jjR12.bits : waitsOk jjR12.T.2 jjR12.B = true := by kernel_rfl

theorem JS.otherD {w w1 : World} {base base' J D D' : Nat} {vE v u u' : Value} {es b b' : List Int} {s m s' m' : Int} (h : JS w base J D vE v es b s m) (k : DiskS w base' D' u b' s' m') (st : DStep w w1 D' u u') (hD : D ≠ D') (ha : Apart v u) : JS w1 base J D vE v es b s m := by
  have hu : ∀ (i : Nat) (cs : Array Value) (t : TypeId), w.heap[i]? = some (.cells cs t (0, 0)) → t ≠ 5 → some i ≠ u.ownBlock := fun i cs t hi ht e => by
    obtain ⟨_, _, cur, hc⟩ := k.row.block e.symm
    rw [hi] at hc
    cases hc
    exact ht rfl
  refine h.move ?_ ?_ (h.disk.other k st hD ha)
  · exact st.block _ h.lt (cells_ne (show w.heap[J]? = _ from h.jat) (show w.heap[D']? = _ from k.cells) (by decide)) (hu _ _ _ h.jat (by decide))
  · intro i hi
    obtain ⟨_, cs, hc⟩ := h.typ i hi
    exact st.block _ (h.elt i hi) (cells_ne hc (show w.heap[D']? = _ from k.cells) (by decide)) (hu _ _ _ hc (by decide))

set_option maxHeartbeats 32000000 in
theorem jjoins_walk (A1 : Option Addr) (c1 : Nat) (a : List K.S26) (A2 : Option Addr) (c2 : Nat) (b : List K.S26) (w : World) (hr1 : Kd.C K.k26 w A1 a.length a) (hc1 : a.length ≤ c1) (hr2 : Kd.C K.k26 w A2 b.length b) (hc2 : b.length ≤ c2) (hl : a.length + b.length ≤ 1048576) :
    Calls Try.prog 15 #[.slice A1 a.length c1, .slice A2 b.length c2] w fun e w' => e = .returned (.bool true) ∧ Below w.heap.size w w' := by
  have HC1 := Lib.hid hr1
  have HC2 := Lib.hid hr2
  clear hr1 hr2
  obtain ⟨ab, hab⟩ : ∃ ab, a ++ b = ab := ⟨_, rfl⟩
  have habl : ab.length ≤ 1048576 := by rw [← hab, List.length_append]; omega
  have hle : ab.length = a.length + b.length := by rw [← hab, List.length_append]
  have HAB := Lib.hid hab
  have HLE := Lib.hid hle
  clear hab hle
  go_enter Try.func15, Try.ntmps15
  go_upto_region 2 with (go_at_call 26; refine (new_is 262144 w w.heap.size (Nat.le_refl _) (by decide) (by decide)).mono ?_; rintro e w1 ⟨rfl, hd, hb⟩; have HD1 := Lib.hid hd; have HB1 := Lib.hid hb; clear hd hb)
  go_upto_region 3 with (go_at_call 26; refine (new_is 262144 w1 w.heap.size HB1.out.size (by decide) (by decide)).mono ?_; rintro e w2 ⟨rfl, hd, hb⟩; have HD2 := Lib.hid hd; have HD12 := Lib.hid (HD1.out.below hb (Nat.le_refl _)); have HB2 := Lib.hid (HB1.out.trans (hb.mono HB1.out.size)); clear hd hb)
  have hnd : w.heap.size ≠ w1.heap.size := by have := HD1.out.cells.lt; omega
  obtain ⟨D1, hD1⟩ : ∃ D1, w.heap.size = D1 := ⟨_, rfl⟩
  obtain ⟨D2, hD2⟩ : ∃ D2, w1.heap.size = D2 := ⟨_, rfl⟩
  obtain ⟨base, hbs⟩ : ∃ base, w.heap.size = base := ⟨_, rfl⟩
  have hD1' : DiskS w2 base D1 (.slice none 0 0) [] 0 262144 := by have := HD12.out; rw [hbs] at this; rw [← hD1, hbs]; exact this
  have hD2' : DiskS w2 base D2 (.slice none 0 0) [] 0 262144 := by have := HD2.out; rw [hbs, hD2] at this; exact this
  have hnd2 : D1 ≠ D2 := by rw [← hD1, ← hD2]; exact hnd
  have hO1 := jopen_is hD1' rfl log_nil
  have HO1 := Lib.hid hO1
  have HE1 := Lib.hid hD1'
  have HE2 := Lib.hid hD2'
  rw [hD1, hD2]
  have HBS : Hid (w.heap.size = base) := Lib.hid hbs
  have hbz : Below w.heap.size w w2 := HB2.out
  have HBZ := Lib.hid hbz
  clear hO1 hD1' hD2' hD1 hD2 hbs hnd HD1 HD2 HD12 HB1 HB2 hbz
  go_upto_region 4 with (go_at_call 72; refine HO1.out.mono ?_; rintro e w3 ⟨J, vE, vL, v3, rfl, hJ, hj, he, hll, hd, hs⟩; obtain ⟨AL, cL, rfl, _, _⟩ := ER.C hll; have hjs := JS.made (by rw [← HBS.out]; exact HBZ.out.size) hJ hj he hd; have HD23 := Lib.hid (HE2.out.other HE1.out hs hnd2.symm (fun _ h => by cases h)); have HB3 := Lib.hid (HBZ.out.trans ((hs.below HE1.out).mono (Nat.le_of_eq HBS.out))); have HJ3 := Lib.hid hjs; clear hj he hll hd hs hJ hjs)
  have HO2 := Lib.hid (jopen_is HD23.out rfl log_nil)
  have hjlt := HJ3.out.lt
  go_upto_region 7 with (go_at_call 72; refine HO2.out.mono ?_; rintro e w4 ⟨J2, uE, uL, u4, rfl, hJ2, hj, he, hll, hd, hs⟩; obtain ⟨AL2, cL2, rfl, _, _⟩ := ER.C hll; have hjs := JS.made (by rw [← HBS.out]; exact HB3.out.size) hJ2 hj he hd; have h34 := HJ3.out.otherD HD23.out hs hnd2 (fun _ _ h => by cases h); have HB4 := Lib.hid (HB3.out.trans ((hs.below HD23.out).mono (Nat.le_of_eq HBS.out))); have HJJ := Lib.hid (JJ.mk h34 hjs (by omega) hnd2 (DStep.apart hs (fun _ h => by cases h) HJ3.out.disk.row).symm); clear hj he hll hd hs hjs h34)
  rw [show flatE [] = [] from rfl, show endsE 0 [] = [] from rfl] at HJJ
  clear HO1 HO2 HE1 HE2 HD23 HJ3 HB3 HBZ hjlt hJ2
  have hbe : Below w4.heap.size w4 (w4.alloc (.cells #[] 26)) := (Below.refl _ _).alloc (Nat.le_refl _) _
  have HBE := Lib.hid hbe
  have HSE := Lib.hid (SR.empty w w4 w4.heap.size (Nat.le_refl _))
  have HBW := Lib.hid (HB4.out.trans (hbe.mono HB4.out.size))
  clear hbe
  obtain ⟨R, hR⟩ : ∃ R, jappE 262144 [] ab = R := ⟨_, rfl⟩
  have HR := Lib.hid hR
  clear hR
  go_upto_region 8 with (first
    | (at_builtin; refine SR.append_ev (w := w4.alloc (.cells #[] 26)) (base := w4.heap.size) HSE.out HC1.out HBW.out rfl (.tmp 61) (.tmp 62) rfl rfl rfl HBE.out.size (by simp only [List.length_nil]; omega) ?_; intro v5 w5 hsr hb; rw [List.nil_append] at hsr; have HX5 := Lib.hid (HBE.out.trans hb); have HW5 := Lib.hid (HB4.out.trans ((HBE.out.trans hb).mono HB4.out.size)); have HS5 := Lib.hid hsr; obtain ⟨A5, k5, rfl, _, _⟩ := hsr.C HW5.out; clear hsr hb)
    | (at_builtin; refine SR.append_ev (w := w5) (base := w4.heap.size) HS5.out HC2.out HW5.out rfl (.tmp 63) (.tmp 64) rfl rfl rfl HX5.out.size (by omega) ?_; intro v6 w6 hsr hb; rw [HAB.out] at hsr; have HX6 := Lib.hid (HX5.out.trans hb); have HW6 := Lib.hid (HB4.out.trans ((HX5.out.trans hb).mono HB4.out.size)); obtain ⟨A6, k6, rfl, hk6, hC6⟩ := hsr.C HW6.out; have HJ6 := Lib.hid (HJJ.out.below HX6.out (Nat.le_refl _)); have HAP := Lib.hid (jappend_is HJ6.out.one A6 k6 ab hC6 hk6 habl (by simp)); clear hsr hb hC6 hk6)
    | (go_at_call 76; refine HAP.out.mono ?_; rintro e w7 ⟨rfl, vE7, v7, hj, hs⟩; rw [HR.out]; have HJ7 := Lib.hid (HJ6.out.act1 hs hj); have HB7 := Lib.hid (HW6.out.trans ((hs.belowJ HJ6.out.one).mono (Nat.le_of_eq HBS.out))); clear hj hs))
  obtain ⟨R1, hR1⟩ : ∃ R1, jappE 262144 [] a = R1 := ⟨_, rfl⟩
  have HR1 := Lib.hid hR1
  have HAP2 := Lib.hid (jappend_is HJ7.out.two A1 c1 a (Kd.C_below HC1.out HB7.out) hc1 (by omega) (by simp))
  clear hR1 HJJ HBE HSE HBW HX5 HW5 HS5 HX6 HW6 HJ6 HAP
  go_upto_region 9 with (go_at_call 76; refine HAP2.out.mono ?_; rintro e w8 ⟨rfl, uE8, u8, hj, hs⟩; rw [HR1.out]; have HJ8 := Lib.hid (HJ7.out.act2 hs hj); have HB8 := Lib.hid (HB7.out.trans ((hs.belowJ HJ7.out.two).mono (Nat.le_of_eq HBS.out))); clear hj hs)
  obtain ⟨b1, hb1⟩ : ∃ b1, jappL 262144 [] a = b1 := ⟨_, rfl⟩
  obtain ⟨e1, he1⟩ : ∃ e1, jappEs 262144 [] [] a = e1 := ⟨_, rfl⟩
  rw [hb1, he1] at HJ8
  have he1l : e1.length ≤ 1048576 := by
    rw [← he1]
    unfold jappEs
    split
    · rw [List.nil_append, endsE_length]; omega
    · simp
  obtain ⟨R2, hR2⟩ : ∃ R2, jappE 262144 b1 b = R2 := ⟨_, rfl⟩
  have HR2 := Lib.hid hR2
  have Hb1 := Lib.hid hb1
  have He1 := Lib.hid he1
  have HAP3 := Lib.hid (jappend_is HJ8.out.two A2 c2 b (Kd.C_below HC2.out HB8.out) hc2 (by omega) he1l)
  clear hR2 hb1 he1 HJ7 HAP2 HB7 he1l
  go_upto_region 10 with (go_at_call 76; refine HAP3.out.mono ?_; rintro e w9 ⟨rfl, uE9, u9, hj, hs⟩; rw [HR2.out]; have HJ9 := Lib.hid (HJ8.out.act2 hs hj); have HB9 := Lib.hid (HB8.out.trans ((hs.belowJ HJ8.out.two).mono (Nat.le_of_eq HBS.out))); clear hj hs)
  clear HJ8 HAP3 HB8
  by_cases h0 : R = 0
  · have hm := HR.out
    rw [h0, ← HAB.out] at hm
    obtain ⟨m1, m2, m3, m4, m5⟩ := joins_ok hm
    have q1 : R1 = 0 := by rw [← HR1.out]; exact m1
    have q2 : b1 = flatE a := by rw [← Hb1.out]; exact m2
    have q3 : R2 = 0 := by rw [← HR2.out, q2]; exact m3
    have HJA := HJ9.out
    rw [q2, m4, ← HAB.out, m5] at HJA
    obtain ⟨fs, hfs⟩ : ∃ fs, flatE (a ++ b) = fs := ⟨_, rfl⟩
    obtain ⟨x1, hx1⟩ : ∃ x1, jappEs 262144 [] [] (a ++ b) = x1 := ⟨_, rfl⟩
    obtain ⟨x2, hx2⟩ : ∃ x2, jappEs 262144 (flatE a) e1 b = x2 := ⟨_, rfl⟩
    rw [hfs, hx1, hx2] at HJA
    have l1 : x1.length = a.length + b.length := by rw [← hx1]; unfold jappEs; rw [if_pos hm, List.nil_append, endsE_length, List.length_append]
    have l2 : x2.length = a.length + b.length := by rw [← hx2]; unfold jappEs; rw [if_pos m3, List.length_append, endsE_length, ← He1.out]; unfold jappEs; rw [if_pos m1, List.nil_append, endsE_length]
    have het : (x1.length == x2.length) = true := by rw [l1, l2]; exact beq_self_eq_true _
    have het2 : ((x1.length : Int) == (x2.length : Int)) = true := by rw [l1, l2]; exact beq_self_eq_true _
    have HJX := Lib.hid HJA
    subst h0 q1 q3
    clear hm m1 m2 m3 m4 m5 q2 HJA hfs hx1 hx2 l1 l2 HJ9
    go_upto_region 12 with (fail)
    refine start_ (n := 26) (S := fun _ => True) (ds := []) #[false, false, false, false, false, false, false, false, false, false, false, false, false, false, false, false, false, false, false, false, false, false, false, false, false, false] (by kernel_rfl) rfl rfl trivial (fun hHeld => ?_); refine with_tabW jjR12.tab jjR12.bits (fun HT_ HW_ => ?_)
    have hbd : Below w9.heap.size w9 w9.drew := below_drew1 (Below.refl _ _)
    have HJw := Lib.hid (HJX.out.below hbd (Nat.le_refl _))
    have HBw := Lib.hid (HB9.out.trans (hbd.mono HB9.out.size))
    clear hbd HJX HB9
    generalize w9.drew = ww at *
    refine pure_ (i := 0) (N := (some 89)) (v := ?_) (a' := ?_) #[true, false, false, false, false, false, false, false, false, false, false, false, false, false, false, false, false, false, false, false, false, false, false, false, false, false] rfl rfl (any_of HT_.out (by kernel_rfl)) (fun _ _ _ h => h) (Or.inl ⟨by rfl, ?_⟩) ?_ ?_
    rotate_left
    · intro w'
      go_simp
      with_reducible rfl
    rotate_left
    · simp only [Act.put, List.setIfInBounds_toArray, List.set_cons_zero, List.set_cons_succ, i64_w, i32_w]
      rfl
    refine pure_ (i := 1) (N := (some 90)) (v := ?_) (a' := ?_) #[true, true, false, false, false, false, false, false, false, false, false, false, false, false, false, false, false, false, false, false, false, false, false, false, false, false] rfl rfl (any_of HT_.out (by kernel_rfl)) (fun _ _ _ h => h) (Or.inl ⟨by rfl, ?_⟩) ?_ ?_
    rotate_left
    · intro w'
      go_simp
      with_reducible rfl
    rotate_left
    · simp only [Act.put, List.setIfInBounds_toArray, List.set_cons_zero, List.set_cons_succ, i64_w, i32_w]
      rfl
    refine pure_ (i := 2) (N := (some 91)) (v := ?_) (a' := ?_) #[true, true, true, false, false, false, false, false, false, false, false, false, false, false, false, false, false, false, false, false, false, false, false, false, false, false] rfl rfl (any_of HT_.out (by kernel_rfl)) (fun _ _ _ h => h) (Or.inl ⟨by rfl, ?_⟩) ?_ ?_
    rotate_left
    · intro w'
      go_simp
      with_reducible rfl
    rotate_left
    · simp only [Act.put, List.setIfInBounds_toArray, List.set_cons_zero, List.set_cons_succ, i64_w, i32_w]
      rfl
    refine pure_ (i := 3) (N := (some 92)) (v := ?_) (a' := ?_) #[true, true, true, true, false, false, false, false, false, false, false, false, false, false, false, false, false, false, false, false, false, false, false, false, false, false] rfl rfl (any_of HT_.out (by kernel_rfl)) (fun _ _ _ h => h) (Or.inl ⟨by rfl, ?_⟩) ?_ ?_
    rotate_left
    · intro w'
      go_simp
      with_reducible rfl
    rotate_left
    · simp only [Act.put, List.setIfInBounds_toArray, List.set_cons_zero, List.set_cons_succ, i64_w, i32_w]
      rfl
    refine pure_ (i := 4) (N := (some 93)) (v := ?_) (a' := ?_) #[true, true, true, true, true, false, false, false, false, false, false, false, false, false, false, false, false, false, false, false, false, false, false, false, false, false] rfl rfl (any_of HT_.out (by kernel_rfl)) (fun _ _ _ h => h) (Or.inl ⟨by rfl, ?_⟩) ?_ ?_
    rotate_left
    · intro w'
      go_simp
      with_reducible rfl
    rotate_left
    · simp only [Act.put, List.setIfInBounds_toArray, List.set_cons_zero, List.set_cons_succ, i64_w, i32_w]
      rfl
    refine pure_ (i := 5) (N := (some 94)) (v := ?_) (a' := ?_) #[true, true, true, true, true, true, false, false, false, false, false, false, false, false, false, false, false, false, false, false, false, false, false, false, false, false] rfl rfl (any_of HT_.out (by kernel_rfl)) (fun _ _ _ h => h) (Or.inl ⟨by rfl, ?_⟩) ?_ ?_
    rotate_left
    · intro w'
      go_simp
      with_reducible rfl
    rotate_left
    · simp only [Act.put, List.setIfInBounds_toArray, List.set_cons_zero, List.set_cons_succ, i64_w, i32_w]
      rfl
    refine pure_ (i := 6) (N := (some 95)) (v := ?_) (a' := ?_) #[true, true, true, true, true, true, true, false, false, false, false, false, false, false, false, false, false, false, false, false, false, false, false, false, false, false] rfl rfl (any_of HT_.out (by kernel_rfl)) (fun _ _ _ h => h) (Or.inl ⟨by rfl, ?_⟩) ?_ ?_
    rotate_left
    · intro w'
      go_simp
      with_reducible rfl
    rotate_left
    · simp only [Act.put, List.setIfInBounds_toArray, List.set_cons_zero, List.set_cons_succ, i64_w, i32_w]
      rfl
    refine pure_ (i := 7) (N := (some 96)) (v := ?_) (a' := ?_) #[true, true, true, true, true, true, true, true, false, false, false, false, false, false, false, false, false, false, false, false, false, false, false, false, false, false] rfl rfl (any_of HT_.out (by kernel_rfl)) (fun _ _ _ h => h) (Or.inl ⟨by rfl, ?_⟩) ?_ ?_
    rotate_left
    · intro w'
      go_simp
      with_reducible rfl
    rotate_left
    · simp only [Act.put, List.setIfInBounds_toArray, List.set_cons_zero, List.set_cons_succ, i64_w, i32_w]
      rfl
    refine pure_ (i := 10) (N := (some 99)) (v := ?_) (a' := ?_) #[true, true, true, true, true, true, true, true, false, false, true, false, false, false, false, false, false, false, false, false, false, false, false, false, false, false] rfl rfl (any_of HT_.out (by kernel_rfl)) (fun _ _ _ h => h) (Or.inl ⟨by rfl, ?_⟩) ?_ ?_
    rotate_left
    · intro w'
      go_simp
      with_reducible rfl
    rotate_left
    · simp only [Act.put, List.setIfInBounds_toArray, List.set_cons_zero, List.set_cons_succ, i64_w, i32_w]
      rfl
    refine one_ (i := 8) (N := (some 97)) #[true, true, true, true, true, true, true, true, true, false, true, false, false, false, false, false, false, false, false, false, false, false, false, false, false, false] rfl rfl (one_of HT_.out (by kernel_rfl)) (by decide) ?_
    intro K hK
    refine goes_ Try.func38 (by kernel_rfl) rfl #[.pointer (some ⟨D1, 0, none⟩)] (by rfl) rfl rfl (by (try simp only [List.map_toArray, List.map_cons, List.map_nil]); first | done | rfl) ?_
    refine (bytes_is HJw.out.one.disk).mono ?_
    rintro e wa ⟨u, rfl, hr, hb⟩
    obtain ⟨Aa, ka, rfl, _, hCa⟩ := BR.len hr
    refine ⟨_, rfl, ?_⟩
    have ta := str_of (c := ka) hCa
    have HCa := Lib.hid hCa
    have HJa := Lib.hid (HJw.out.below hb (Nat.le_refl _))
    have HBa := Lib.hid (HBw.out.trans (hb.mono HBw.out.size))
    clear hr hb hCa
    refine hK.out _ _ trivial (fun hHeld => ?_)
    clear hK K
    refine norm_ (a' := ?_) ?_ ?_
    rotate_left
    · show Act.put _ (some 97) _ = _
      simp only [Act.put, List.setIfInBounds_toArray, List.set_cons_zero, List.set_cons_succ, i64_w, i32_w]
      rfl
    refine two_ (i := 9) (j := 11) (Ni := (some 98)) (Nj := (some 100)) #[true, true, true, true, true, true, true, true, true, true, true, false, false, false, false, false, false, false, false, false, false, false, false, false, false, false] #[true, true, true, true, true, true, true, true, true, false, true, true, false, false, false, false, false, false, false, false, false, false, false, false, false, false] rfl rfl rfl rfl (two_of HT_.out (by kernel_rfl)) (by decide) (by decide) ?_ ?_
    · intro K hK
      refine value_ (w1 := ?_) (v := ?_) (by rfl) rfl ?_ ?_
      rotate_left 2
      · go_simp
        constructor
        · rfl
        · rfl
      refine hK.out _ _ trivial (fun hHeld => ?_)
      clear hK K
      refine norm_ (a' := ?_) ?_ ?_
      rotate_left
      · show Act.put _ (some 98) _ = _
        simp only [Act.put, List.setIfInBounds_toArray, List.set_cons_zero, List.set_cons_succ, i64_w, i32_w]
        rfl
      refine one_ (i := 11) (N := (some 100)) #[true, true, true, true, true, true, true, true, true, true, true, true, false, false, false, false, false, false, false, false, false, false, false, false, false, false] rfl rfl (one_of HT_.out (by kernel_rfl)) (by decide) ?_
      intro K hK
      refine goes_ Try.func38 (by kernel_rfl) rfl #[.pointer (some ⟨D2, 0, none⟩)] (by rfl) rfl rfl (by (try simp only [List.map_toArray, List.map_cons, List.map_nil]); first | done | rfl) ?_
      refine (bytes_is HJa.out.two.disk).mono ?_
      rintro e wb ⟨u, rfl, hr, hb⟩
      obtain ⟨Ab, kb, rfl, _, hCb⟩ := BR.len hr
      refine ⟨_, rfl, ?_⟩
      have tb := str_of (c := kb) hCb
      have HJb := Lib.hid (HJa.out.below hb (Nat.le_refl _))
      have HBb := Lib.hid (HBa.out.trans (hb.mono HBa.out.size))
      clear hr hb hCb
      refine hK.out _ _ trivial (fun hHeld => ?_)
      clear hK K
      refine norm_ (a' := ?_) ?_ ?_
      rotate_left
      · show Act.put _ (some 100) _ = _
        simp only [Act.put, List.setIfInBounds_toArray, List.set_cons_zero, List.set_cons_succ, i64_w, i32_w]
        rfl
      refine one_ (i := 12) (N := (some 101)) #[true, true, true, true, true, true, true, true, true, true, true, true, true, false, false, false, false, false, false, false, false, false, false, false, false, false] rfl rfl (one_of HT_.out (by kernel_rfl)) (by decide) ?_
      intro K hK
      refine value_ (w1 := ?_) (v := ?_) (by rfl) rfl ?_ ?_
      rotate_left 2
      · go_simp
        constructor
        · rfl
        · rfl
      refine hK.out _ _ trivial (fun hHeld => ?_)
      clear hK K
      refine norm_ (a' := ?_) ?_ ?_
      rotate_left
      · show Act.put _ (some 101) _ = _
        simp only [Act.put, List.setIfInBounds_toArray, List.set_cons_zero, List.set_cons_succ, i64_w, i32_w]
        rfl
      refine pure_ (i := 13) (N := (some 102)) (v := ?_) (a' := ?_) #[true, true, true, true, true, true, true, true, true, true, true, true, true, true, false, false, false, false, false, false, false, false, false, false, false, false] rfl rfl (any_of HT_.out (by kernel_rfl)) (fun _ _ _ h => h) (Or.inl ⟨by rfl, ?_⟩) ?_ ?_
      rotate_left
      · intro w'
        go_simp
        with_reducible rfl
      rotate_left
      · simp only [Act.put, List.setIfInBounds_toArray, List.set_cons_zero, List.set_cons_succ, i64_w, i32_w]
        rfl
      refine pure_ (i := 14) (N := (some 103)) (v := ?_) (a' := ?_) #[true, true, true, true, true, true, true, true, true, true, true, true, true, true, true, false, false, false, false, false, false, false, false, false, false, false] rfl rfl (any_of HT_.out (by kernel_rfl)) (fun _ _ _ h => h) (Or.inl ⟨by rfl, ?_⟩) ?_ ?_
      rotate_left
      · intro w'
        go_simp
        with_reducible rfl
      rotate_left
      · simp only [Act.put, List.setIfInBounds_toArray, List.set_cons_zero, List.set_cons_succ, i64_w, i32_w]
        rfl
      refine pure_ (i := 15) (N := (some 104)) (v := ?_) (a' := ?_) #[true, true, true, true, true, true, true, true, true, true, true, true, true, true, true, true, false, false, false, false, false, false, false, false, false, false] rfl rfl (any_of HT_.out (by kernel_rfl)) (fun _ _ _ h => h) (Or.inl ⟨by rfl, ?_⟩) ?_ ?_
      rotate_left
      · intro w'
        go_simp
        with_reducible rfl
      rotate_left
      · simp only [Act.put, List.setIfInBounds_toArray, List.set_cons_zero, List.set_cons_succ, i64_w, i32_w]
        rfl
      refine pure_ (i := 16) (N := (some 105)) (v := ?_) (a' := ?_) #[true, true, true, true, true, true, true, true, true, true, true, true, true, true, true, true, true, false, false, false, false, false, false, false, false, false] rfl rfl (any_of HT_.out (by kernel_rfl)) (fun _ _ _ h => h) (Or.inl ⟨by rfl, ?_⟩) ?_ ?_
      rotate_left
      · intro w'
        go_simp
        with_reducible rfl
      rotate_left
      · simp only [Act.put, List.setIfInBounds_toArray, List.set_cons_zero, List.set_cons_succ, i64_w, i32_w]
        rfl
      refine pure_ (i := 18) (N := (some 107)) (v := ?_) (a' := ?_) #[true, true, true, true, true, true, true, true, true, true, true, true, true, true, true, true, true, false, true, false, false, false, false, false, false, false] rfl rfl (any_of HT_.out (by kernel_rfl)) (fun _ _ _ h => h) (Or.inl ⟨by rfl, ?_⟩) ?_ ?_
      rotate_left
      · intro w'
        go_simp
        with_reducible rfl
      rotate_left
      · simp only [Act.put, List.setIfInBounds_toArray, List.set_cons_zero, List.set_cons_succ, i64_w, i32_w]
        rfl
      refine one_ (i := 17) (N := (some 106)) #[true, true, true, true, true, true, true, true, true, true, true, true, true, true, true, true, true, true, true, false, false, false, false, false, false, false] rfl rfl (one_of HT_.out (by kernel_rfl)) (by decide) ?_
      intro K hK
      refine goes_ Try.func74 (by kernel_rfl) rfl #[.pointer (some ⟨J, 0, none⟩)] (by rfl) rfl rfl (by (try simp only [List.map_toArray, List.map_cons, List.map_nil]); first | done | rfl) ?_
      refine (jlen_is HJb.out.one).mono ?_
      rintro e w' ⟨rfl, rfl⟩
      refine ⟨_, rfl, ?_⟩
      refine hK.out _ _ trivial (fun hHeld => ?_)
      clear hK K
      refine norm_ (a' := ?_) ?_ ?_
      rotate_left
      · show Act.put _ (some 106) _ = _
        simp only [Act.put, List.setIfInBounds_toArray, List.set_cons_zero, List.set_cons_succ, i64_w, i32_w]
        rfl
      refine one_ (i := 19) (N := (some 108)) #[true, true, true, true, true, true, true, true, true, true, true, true, true, true, true, true, true, true, true, true, false, false, false, false, false, false] rfl rfl (one_of HT_.out (by kernel_rfl)) (by decide) ?_
      intro K hK
      refine goes_ Try.func74 (by kernel_rfl) rfl #[.pointer (some ⟨J2, 0, none⟩)] (by rfl) rfl rfl (by (try simp only [List.map_toArray, List.map_cons, List.map_nil]); first | done | rfl) ?_
      refine (jlen_is HJb.out.two).mono ?_
      rintro e w' ⟨rfl, rfl⟩
      refine ⟨_, rfl, ?_⟩
      refine hK.out _ _ trivial (fun hHeld => ?_)
      clear hK K
      refine norm_ (a' := ?_) ?_ ?_
      rotate_left
      · show Act.put _ (some 108) _ = _
        simp only [Act.put, List.setIfInBounds_toArray, List.set_cons_zero, List.set_cons_succ, i64_w, i32_w]
        rfl
      refine pure_ (i := 20) (N := (some 109)) (v := ?_) (a' := ?_) #[true, true, true, true, true, true, true, true, true, true, true, true, true, true, true, true, true, true, true, true, true, false, false, false, false, false] rfl rfl (any_of HT_.out (by kernel_rfl)) (fun _ _ _ h => h) (Or.inl ⟨by rfl, ?_⟩) ?_ ?_
      rotate_left
      · intro w'
        go_simp
        with_reducible rfl
      rotate_left
      · simp only [Act.put, List.setIfInBounds_toArray, List.set_cons_zero, List.set_cons_succ, i64_w, i32_w]
        rfl
      refine pure_ (i := 21) (N := (some 110)) (v := ?_) (a' := ?_) #[true, true, true, true, true, true, true, true, true, true, true, true, true, true, true, true, true, true, true, true, true, true, false, false, false, false] rfl rfl (any_of HT_.out (by kernel_rfl)) (fun _ _ _ h => h) (Or.inl ⟨by rfl, ?_⟩) ?_ ?_
      rotate_left
      · intro w'
        go_simp
        with_reducible rfl
      rotate_left
      · simp only [Act.put, List.setIfInBounds_toArray, List.set_cons_zero, List.set_cons_succ, i64_w, i32_w]
        rfl
      refine pure_ (i := 22) (N := (some 111)) (v := ?_) (a' := ?_) #[true, true, true, true, true, true, true, true, true, true, true, true, true, true, true, true, true, true, true, true, true, true, true, false, false, false] rfl rfl (any_of HT_.out (by kernel_rfl)) (fun _ _ _ h => h) (Or.inl ⟨by rfl, ?_⟩) ?_ ?_
      rotate_left
      · intro w'
        go_simp
        with_reducible rfl
      rotate_left
      · simp only [Act.put, List.setIfInBounds_toArray, List.set_cons_zero, List.set_cons_succ, i64_w, i32_w]
        rfl
      refine one_ (i := 23) (N := (some 112)) #[true, true, true, true, true, true, true, true, true, true, true, true, true, true, true, true, true, true, true, true, true, true, true, true, false, false] rfl rfl (one_of HT_.out (by kernel_rfl)) (by decide) ?_
      intro K hK
      refine goes_ Try.func71 (by kernel_rfl) rfl #[] (by rfl) rfl rfl (by (try simp only [List.map_toArray, List.map_cons, List.map_nil]); first | done | rfl) ?_
      refine (awake18_is _).mono ?_
      rintro e wz ⟨rfl, hb⟩
      refine ⟨_, rfl, ?_⟩
      have HBz := Lib.hid (HBb.out.trans (hb.mono HBb.out.size))
      clear hb
      refine hK.out _ _ trivial (fun hHeld => ?_)
      clear hK K
      refine norm_ (a' := ?_) ?_ ?_
      rotate_left
      · show Act.put _ (some 112) _ = _
        simp only [Act.put, List.setIfInBounds_toArray, List.set_cons_zero, List.set_cons_succ, i64_w, i32_w]
        rfl
      refine pure_ (i := 24) (N := (some 113)) (v := ?_) (a' := ?_) #[true, true, true, true, true, true, true, true, true, true, true, true, true, true, true, true, true, true, true, true, true, true, true, true, true, false] rfl rfl (any_of HT_.out (by kernel_rfl)) (fun _ _ _ h => h) (Or.inl ⟨by rfl, ?_⟩) ?_ ?_
      rotate_left
      · intro w'
        go_simp
        with_reducible rfl
      rotate_left
      · simp only [Act.put, List.setIfInBounds_toArray, List.set_cons_zero, List.set_cons_succ, i64_w, i32_w]
        rfl
      refine pure_ (i := 25) (N := (some 4)) (v := ?_) (a' := ?_) #[true, true, true, true, true, true, true, true, true, true, true, true, true, true, true, true, true, true, true, true, true, true, true, true, true, true] rfl rfl (any_of HT_.out (by kernel_rfl)) (fun _ _ _ h => h) (Or.inl ⟨by rfl, ?_⟩) ?_ ?_
      rotate_left
      · intro w'
        go_simp
        with_reducible rfl
      rotate_left
      · simp only [Act.put, List.setIfInBounds_toArray, List.set_cons_zero, List.set_cons_succ, i64_w, i32_w]
        rfl
      refine done_ (done_of HT_.out (by kernel_rfl)) ?_
      go_wp2
      go_ret
      exact ⟨rfl, HBz.out⟩
    · intro K hK
      refine goes_ Try.func38 (by kernel_rfl) rfl #[.pointer (some ⟨D2, 0, none⟩)] (by rfl) rfl rfl (by (try simp only [List.map_toArray, List.map_cons, List.map_nil]); first | done | rfl) ?_
      refine (bytes_is HJa.out.two.disk).mono ?_
      rintro e wb ⟨u, rfl, hr, hb⟩
      obtain ⟨Ab, kb, rfl, _, hCb⟩ := BR.len hr
      refine ⟨_, rfl, ?_⟩
      have tb := str_of (c := kb) hCb
      have HJb := Lib.hid (HJa.out.below hb (Nat.le_refl _))
      have HBb := Lib.hid (HBa.out.trans (hb.mono HBa.out.size))
      have ta2 := str_of (c := ka) (Kd.C_below HCa.out hb)
      clear hr hb hCb
      refine hK.out _ _ trivial (fun hHeld => ?_)
      clear hK K
      refine norm_ (a' := ?_) ?_ ?_
      rotate_left
      · show Act.put _ (some 100) _ = _
        simp only [Act.put, List.setIfInBounds_toArray, List.set_cons_zero, List.set_cons_succ, i64_w, i32_w]
        rfl
      refine two_ (i := 9) (j := 12) (Ni := (some 98)) (Nj := (some 101)) #[true, true, true, true, true, true, true, true, true, true, true, true, false, false, false, false, false, false, false, false, false, false, false, false, false, false] #[true, true, true, true, true, true, true, true, true, false, true, true, true, false, false, false, false, false, false, false, false, false, false, false, false, false] rfl rfl rfl rfl (two_of HT_.out (by kernel_rfl)) (by decide) (by decide) ?_ ?_
      · intro K hK
        refine value_ (w1 := ?_) (v := ?_) (by rfl) rfl ?_ ?_
        rotate_left 2
        · go_simp
          constructor
          · rfl
          · rfl
        refine hK.out _ _ trivial (fun hHeld => ?_)
        clear hK K
        refine norm_ (a' := ?_) ?_ ?_
        rotate_left
        · show Act.put _ (some 98) _ = _
          simp only [Act.put, List.setIfInBounds_toArray, List.set_cons_zero, List.set_cons_succ, i64_w, i32_w]
          rfl
        refine one_ (i := 12) (N := (some 101)) #[true, true, true, true, true, true, true, true, true, true, true, true, true, false, false, false, false, false, false, false, false, false, false, false, false, false] rfl rfl (one_of HT_.out (by kernel_rfl)) (by decide) ?_
        intro K hK
        refine value_ (w1 := ?_) (v := ?_) (by rfl) rfl ?_ ?_
        rotate_left 2
        · go_simp
          constructor
          · rfl
          · rfl
        refine hK.out _ _ trivial (fun hHeld => ?_)
        clear hK K
        refine norm_ (a' := ?_) ?_ ?_
        rotate_left
        · show Act.put _ (some 101) _ = _
          simp only [Act.put, List.setIfInBounds_toArray, List.set_cons_zero, List.set_cons_succ, i64_w, i32_w]
          rfl
        refine pure_ (i := 13) (N := (some 102)) (v := ?_) (a' := ?_) #[true, true, true, true, true, true, true, true, true, true, true, true, true, true, false, false, false, false, false, false, false, false, false, false, false, false] rfl rfl (any_of HT_.out (by kernel_rfl)) (fun _ _ _ h => h) (Or.inl ⟨by rfl, ?_⟩) ?_ ?_
        rotate_left
        · intro w'
          go_simp
          with_reducible rfl
        rotate_left
        · simp only [Act.put, List.setIfInBounds_toArray, List.set_cons_zero, List.set_cons_succ, i64_w, i32_w]
          rfl
        refine pure_ (i := 14) (N := (some 103)) (v := ?_) (a' := ?_) #[true, true, true, true, true, true, true, true, true, true, true, true, true, true, true, false, false, false, false, false, false, false, false, false, false, false] rfl rfl (any_of HT_.out (by kernel_rfl)) (fun _ _ _ h => h) (Or.inl ⟨by rfl, ?_⟩) ?_ ?_
        rotate_left
        · intro w'
          go_simp
          with_reducible rfl
        rotate_left
        · simp only [Act.put, List.setIfInBounds_toArray, List.set_cons_zero, List.set_cons_succ, i64_w, i32_w]
          rfl
        refine pure_ (i := 15) (N := (some 104)) (v := ?_) (a' := ?_) #[true, true, true, true, true, true, true, true, true, true, true, true, true, true, true, true, false, false, false, false, false, false, false, false, false, false] rfl rfl (any_of HT_.out (by kernel_rfl)) (fun _ _ _ h => h) (Or.inl ⟨by rfl, ?_⟩) ?_ ?_
        rotate_left
        · intro w'
          go_simp
          with_reducible rfl
        rotate_left
        · simp only [Act.put, List.setIfInBounds_toArray, List.set_cons_zero, List.set_cons_succ, i64_w, i32_w]
          rfl
        refine pure_ (i := 16) (N := (some 105)) (v := ?_) (a' := ?_) #[true, true, true, true, true, true, true, true, true, true, true, true, true, true, true, true, true, false, false, false, false, false, false, false, false, false] rfl rfl (any_of HT_.out (by kernel_rfl)) (fun _ _ _ h => h) (Or.inl ⟨by rfl, ?_⟩) ?_ ?_
        rotate_left
        · intro w'
          go_simp
          with_reducible rfl
        rotate_left
        · simp only [Act.put, List.setIfInBounds_toArray, List.set_cons_zero, List.set_cons_succ, i64_w, i32_w]
          rfl
        refine pure_ (i := 18) (N := (some 107)) (v := ?_) (a' := ?_) #[true, true, true, true, true, true, true, true, true, true, true, true, true, true, true, true, true, false, true, false, false, false, false, false, false, false] rfl rfl (any_of HT_.out (by kernel_rfl)) (fun _ _ _ h => h) (Or.inl ⟨by rfl, ?_⟩) ?_ ?_
        rotate_left
        · intro w'
          go_simp
          with_reducible rfl
        rotate_left
        · simp only [Act.put, List.setIfInBounds_toArray, List.set_cons_zero, List.set_cons_succ, i64_w, i32_w]
          rfl
        refine one_ (i := 17) (N := (some 106)) #[true, true, true, true, true, true, true, true, true, true, true, true, true, true, true, true, true, true, true, false, false, false, false, false, false, false] rfl rfl (one_of HT_.out (by kernel_rfl)) (by decide) ?_
        intro K hK
        refine goes_ Try.func74 (by kernel_rfl) rfl #[.pointer (some ⟨J, 0, none⟩)] (by rfl) rfl rfl (by (try simp only [List.map_toArray, List.map_cons, List.map_nil]); first | done | rfl) ?_
        refine (jlen_is HJb.out.one).mono ?_
        rintro e w' ⟨rfl, rfl⟩
        refine ⟨_, rfl, ?_⟩
        refine hK.out _ _ trivial (fun hHeld => ?_)
        clear hK K
        refine norm_ (a' := ?_) ?_ ?_
        rotate_left
        · show Act.put _ (some 106) _ = _
          simp only [Act.put, List.setIfInBounds_toArray, List.set_cons_zero, List.set_cons_succ, i64_w, i32_w]
          rfl
        refine one_ (i := 19) (N := (some 108)) #[true, true, true, true, true, true, true, true, true, true, true, true, true, true, true, true, true, true, true, true, false, false, false, false, false, false] rfl rfl (one_of HT_.out (by kernel_rfl)) (by decide) ?_
        intro K hK
        refine goes_ Try.func74 (by kernel_rfl) rfl #[.pointer (some ⟨J2, 0, none⟩)] (by rfl) rfl rfl (by (try simp only [List.map_toArray, List.map_cons, List.map_nil]); first | done | rfl) ?_
        refine (jlen_is HJb.out.two).mono ?_
        rintro e w' ⟨rfl, rfl⟩
        refine ⟨_, rfl, ?_⟩
        refine hK.out _ _ trivial (fun hHeld => ?_)
        clear hK K
        refine norm_ (a' := ?_) ?_ ?_
        rotate_left
        · show Act.put _ (some 108) _ = _
          simp only [Act.put, List.setIfInBounds_toArray, List.set_cons_zero, List.set_cons_succ, i64_w, i32_w]
          rfl
        refine pure_ (i := 20) (N := (some 109)) (v := ?_) (a' := ?_) #[true, true, true, true, true, true, true, true, true, true, true, true, true, true, true, true, true, true, true, true, true, false, false, false, false, false] rfl rfl (any_of HT_.out (by kernel_rfl)) (fun _ _ _ h => h) (Or.inl ⟨by rfl, ?_⟩) ?_ ?_
        rotate_left
        · intro w'
          go_simp
          with_reducible rfl
        rotate_left
        · simp only [Act.put, List.setIfInBounds_toArray, List.set_cons_zero, List.set_cons_succ, i64_w, i32_w]
          rfl
        refine pure_ (i := 21) (N := (some 110)) (v := ?_) (a' := ?_) #[true, true, true, true, true, true, true, true, true, true, true, true, true, true, true, true, true, true, true, true, true, true, false, false, false, false] rfl rfl (any_of HT_.out (by kernel_rfl)) (fun _ _ _ h => h) (Or.inl ⟨by rfl, ?_⟩) ?_ ?_
        rotate_left
        · intro w'
          go_simp
          with_reducible rfl
        rotate_left
        · simp only [Act.put, List.setIfInBounds_toArray, List.set_cons_zero, List.set_cons_succ, i64_w, i32_w]
          rfl
        refine pure_ (i := 22) (N := (some 111)) (v := ?_) (a' := ?_) #[true, true, true, true, true, true, true, true, true, true, true, true, true, true, true, true, true, true, true, true, true, true, true, false, false, false] rfl rfl (any_of HT_.out (by kernel_rfl)) (fun _ _ _ h => h) (Or.inl ⟨by rfl, ?_⟩) ?_ ?_
        rotate_left
        · intro w'
          go_simp
          with_reducible rfl
        rotate_left
        · simp only [Act.put, List.setIfInBounds_toArray, List.set_cons_zero, List.set_cons_succ, i64_w, i32_w]
          rfl
        refine one_ (i := 23) (N := (some 112)) #[true, true, true, true, true, true, true, true, true, true, true, true, true, true, true, true, true, true, true, true, true, true, true, true, false, false] rfl rfl (one_of HT_.out (by kernel_rfl)) (by decide) ?_
        intro K hK
        refine goes_ Try.func71 (by kernel_rfl) rfl #[] (by rfl) rfl rfl (by (try simp only [List.map_toArray, List.map_cons, List.map_nil]); first | done | rfl) ?_
        refine (awake18_is _).mono ?_
        rintro e wz ⟨rfl, hb⟩
        refine ⟨_, rfl, ?_⟩
        have HBz := Lib.hid (HBb.out.trans (hb.mono HBb.out.size))
        clear hb
        refine hK.out _ _ trivial (fun hHeld => ?_)
        clear hK K
        refine norm_ (a' := ?_) ?_ ?_
        rotate_left
        · show Act.put _ (some 112) _ = _
          simp only [Act.put, List.setIfInBounds_toArray, List.set_cons_zero, List.set_cons_succ, i64_w, i32_w]
          rfl
        refine pure_ (i := 24) (N := (some 113)) (v := ?_) (a' := ?_) #[true, true, true, true, true, true, true, true, true, true, true, true, true, true, true, true, true, true, true, true, true, true, true, true, true, false] rfl rfl (any_of HT_.out (by kernel_rfl)) (fun _ _ _ h => h) (Or.inl ⟨by rfl, ?_⟩) ?_ ?_
        rotate_left
        · intro w'
          go_simp
          with_reducible rfl
        rotate_left
        · simp only [Act.put, List.setIfInBounds_toArray, List.set_cons_zero, List.set_cons_succ, i64_w, i32_w]
          rfl
        refine pure_ (i := 25) (N := (some 4)) (v := ?_) (a' := ?_) #[true, true, true, true, true, true, true, true, true, true, true, true, true, true, true, true, true, true, true, true, true, true, true, true, true, true] rfl rfl (any_of HT_.out (by kernel_rfl)) (fun _ _ _ h => h) (Or.inl ⟨by rfl, ?_⟩) ?_ ?_
        rotate_left
        · intro w'
          go_simp
          with_reducible rfl
        rotate_left
        · simp only [Act.put, List.setIfInBounds_toArray, List.set_cons_zero, List.set_cons_succ, i64_w, i32_w]
          rfl
        refine done_ (done_of HT_.out (by kernel_rfl)) ?_
        go_wp2
        go_ret
        exact ⟨rfl, HBz.out⟩
      · intro K hK
        refine value_ (w1 := ?_) (v := ?_) (by rfl) rfl ?_ ?_
        rotate_left 2
        · go_simp
          constructor
          · rfl
          · rfl
        refine hK.out _ _ trivial (fun hHeld => ?_)
        clear hK K
        refine norm_ (a' := ?_) ?_ ?_
        rotate_left
        · show Act.put _ (some 101) _ = _
          simp only [Act.put, List.setIfInBounds_toArray, List.set_cons_zero, List.set_cons_succ, i64_w, i32_w]
          rfl
        refine one_ (i := 9) (N := (some 98)) #[true, true, true, true, true, true, true, true, true, true, true, true, true, false, false, false, false, false, false, false, false, false, false, false, false, false] rfl rfl (one_of HT_.out (by kernel_rfl)) (by decide) ?_
        intro K hK
        refine value_ (w1 := ?_) (v := ?_) (by rfl) rfl ?_ ?_
        rotate_left 2
        · go_simp
          constructor
          · rfl
          · rfl
        refine hK.out _ _ trivial (fun hHeld => ?_)
        clear hK K
        refine norm_ (a' := ?_) ?_ ?_
        rotate_left
        · show Act.put _ (some 98) _ = _
          simp only [Act.put, List.setIfInBounds_toArray, List.set_cons_zero, List.set_cons_succ, i64_w, i32_w]
          rfl
        refine pure_ (i := 13) (N := (some 102)) (v := ?_) (a' := ?_) #[true, true, true, true, true, true, true, true, true, true, true, true, true, true, false, false, false, false, false, false, false, false, false, false, false, false] rfl rfl (any_of HT_.out (by kernel_rfl)) (fun _ _ _ h => h) (Or.inl ⟨by rfl, ?_⟩) ?_ ?_
        rotate_left
        · intro w'
          go_simp
          with_reducible rfl
        rotate_left
        · simp only [Act.put, List.setIfInBounds_toArray, List.set_cons_zero, List.set_cons_succ, i64_w, i32_w]
          rfl
        refine pure_ (i := 14) (N := (some 103)) (v := ?_) (a' := ?_) #[true, true, true, true, true, true, true, true, true, true, true, true, true, true, true, false, false, false, false, false, false, false, false, false, false, false] rfl rfl (any_of HT_.out (by kernel_rfl)) (fun _ _ _ h => h) (Or.inl ⟨by rfl, ?_⟩) ?_ ?_
        rotate_left
        · intro w'
          go_simp
          with_reducible rfl
        rotate_left
        · simp only [Act.put, List.setIfInBounds_toArray, List.set_cons_zero, List.set_cons_succ, i64_w, i32_w]
          rfl
        refine pure_ (i := 15) (N := (some 104)) (v := ?_) (a' := ?_) #[true, true, true, true, true, true, true, true, true, true, true, true, true, true, true, true, false, false, false, false, false, false, false, false, false, false] rfl rfl (any_of HT_.out (by kernel_rfl)) (fun _ _ _ h => h) (Or.inl ⟨by rfl, ?_⟩) ?_ ?_
        rotate_left
        · intro w'
          go_simp
          with_reducible rfl
        rotate_left
        · simp only [Act.put, List.setIfInBounds_toArray, List.set_cons_zero, List.set_cons_succ, i64_w, i32_w]
          rfl
        refine pure_ (i := 16) (N := (some 105)) (v := ?_) (a' := ?_) #[true, true, true, true, true, true, true, true, true, true, true, true, true, true, true, true, true, false, false, false, false, false, false, false, false, false] rfl rfl (any_of HT_.out (by kernel_rfl)) (fun _ _ _ h => h) (Or.inl ⟨by rfl, ?_⟩) ?_ ?_
        rotate_left
        · intro w'
          go_simp
          with_reducible rfl
        rotate_left
        · simp only [Act.put, List.setIfInBounds_toArray, List.set_cons_zero, List.set_cons_succ, i64_w, i32_w]
          rfl
        refine pure_ (i := 18) (N := (some 107)) (v := ?_) (a' := ?_) #[true, true, true, true, true, true, true, true, true, true, true, true, true, true, true, true, true, false, true, false, false, false, false, false, false, false] rfl rfl (any_of HT_.out (by kernel_rfl)) (fun _ _ _ h => h) (Or.inl ⟨by rfl, ?_⟩) ?_ ?_
        rotate_left
        · intro w'
          go_simp
          with_reducible rfl
        rotate_left
        · simp only [Act.put, List.setIfInBounds_toArray, List.set_cons_zero, List.set_cons_succ, i64_w, i32_w]
          rfl
        refine one_ (i := 17) (N := (some 106)) #[true, true, true, true, true, true, true, true, true, true, true, true, true, true, true, true, true, true, true, false, false, false, false, false, false, false] rfl rfl (one_of HT_.out (by kernel_rfl)) (by decide) ?_
        intro K hK
        refine goes_ Try.func74 (by kernel_rfl) rfl #[.pointer (some ⟨J, 0, none⟩)] (by rfl) rfl rfl (by (try simp only [List.map_toArray, List.map_cons, List.map_nil]); first | done | rfl) ?_
        refine (jlen_is HJb.out.one).mono ?_
        rintro e w' ⟨rfl, rfl⟩
        refine ⟨_, rfl, ?_⟩
        refine hK.out _ _ trivial (fun hHeld => ?_)
        clear hK K
        refine norm_ (a' := ?_) ?_ ?_
        rotate_left
        · show Act.put _ (some 106) _ = _
          simp only [Act.put, List.setIfInBounds_toArray, List.set_cons_zero, List.set_cons_succ, i64_w, i32_w]
          rfl
        refine one_ (i := 19) (N := (some 108)) #[true, true, true, true, true, true, true, true, true, true, true, true, true, true, true, true, true, true, true, true, false, false, false, false, false, false] rfl rfl (one_of HT_.out (by kernel_rfl)) (by decide) ?_
        intro K hK
        refine goes_ Try.func74 (by kernel_rfl) rfl #[.pointer (some ⟨J2, 0, none⟩)] (by rfl) rfl rfl (by (try simp only [List.map_toArray, List.map_cons, List.map_nil]); first | done | rfl) ?_
        refine (jlen_is HJb.out.two).mono ?_
        rintro e w' ⟨rfl, rfl⟩
        refine ⟨_, rfl, ?_⟩
        refine hK.out _ _ trivial (fun hHeld => ?_)
        clear hK K
        refine norm_ (a' := ?_) ?_ ?_
        rotate_left
        · show Act.put _ (some 108) _ = _
          simp only [Act.put, List.setIfInBounds_toArray, List.set_cons_zero, List.set_cons_succ, i64_w, i32_w]
          rfl
        refine pure_ (i := 20) (N := (some 109)) (v := ?_) (a' := ?_) #[true, true, true, true, true, true, true, true, true, true, true, true, true, true, true, true, true, true, true, true, true, false, false, false, false, false] rfl rfl (any_of HT_.out (by kernel_rfl)) (fun _ _ _ h => h) (Or.inl ⟨by rfl, ?_⟩) ?_ ?_
        rotate_left
        · intro w'
          go_simp
          with_reducible rfl
        rotate_left
        · simp only [Act.put, List.setIfInBounds_toArray, List.set_cons_zero, List.set_cons_succ, i64_w, i32_w]
          rfl
        refine pure_ (i := 21) (N := (some 110)) (v := ?_) (a' := ?_) #[true, true, true, true, true, true, true, true, true, true, true, true, true, true, true, true, true, true, true, true, true, true, false, false, false, false] rfl rfl (any_of HT_.out (by kernel_rfl)) (fun _ _ _ h => h) (Or.inl ⟨by rfl, ?_⟩) ?_ ?_
        rotate_left
        · intro w'
          go_simp
          with_reducible rfl
        rotate_left
        · simp only [Act.put, List.setIfInBounds_toArray, List.set_cons_zero, List.set_cons_succ, i64_w, i32_w]
          rfl
        refine pure_ (i := 22) (N := (some 111)) (v := ?_) (a' := ?_) #[true, true, true, true, true, true, true, true, true, true, true, true, true, true, true, true, true, true, true, true, true, true, true, false, false, false] rfl rfl (any_of HT_.out (by kernel_rfl)) (fun _ _ _ h => h) (Or.inl ⟨by rfl, ?_⟩) ?_ ?_
        rotate_left
        · intro w'
          go_simp
          with_reducible rfl
        rotate_left
        · simp only [Act.put, List.setIfInBounds_toArray, List.set_cons_zero, List.set_cons_succ, i64_w, i32_w]
          rfl
        refine one_ (i := 23) (N := (some 112)) #[true, true, true, true, true, true, true, true, true, true, true, true, true, true, true, true, true, true, true, true, true, true, true, true, false, false] rfl rfl (one_of HT_.out (by kernel_rfl)) (by decide) ?_
        intro K hK
        refine goes_ Try.func71 (by kernel_rfl) rfl #[] (by rfl) rfl rfl (by (try simp only [List.map_toArray, List.map_cons, List.map_nil]); first | done | rfl) ?_
        refine (awake18_is _).mono ?_
        rintro e wz ⟨rfl, hb⟩
        refine ⟨_, rfl, ?_⟩
        have HBz := Lib.hid (HBb.out.trans (hb.mono HBb.out.size))
        clear hb
        refine hK.out _ _ trivial (fun hHeld => ?_)
        clear hK K
        refine norm_ (a' := ?_) ?_ ?_
        rotate_left
        · show Act.put _ (some 112) _ = _
          simp only [Act.put, List.setIfInBounds_toArray, List.set_cons_zero, List.set_cons_succ, i64_w, i32_w]
          rfl
        refine pure_ (i := 24) (N := (some 113)) (v := ?_) (a' := ?_) #[true, true, true, true, true, true, true, true, true, true, true, true, true, true, true, true, true, true, true, true, true, true, true, true, true, false] rfl rfl (any_of HT_.out (by kernel_rfl)) (fun _ _ _ h => h) (Or.inl ⟨by rfl, ?_⟩) ?_ ?_
        rotate_left
        · intro w'
          go_simp
          with_reducible rfl
        rotate_left
        · simp only [Act.put, List.setIfInBounds_toArray, List.set_cons_zero, List.set_cons_succ, i64_w, i32_w]
          rfl
        refine pure_ (i := 25) (N := (some 4)) (v := ?_) (a' := ?_) #[true, true, true, true, true, true, true, true, true, true, true, true, true, true, true, true, true, true, true, true, true, true, true, true, true, true] rfl rfl (any_of HT_.out (by kernel_rfl)) (fun _ _ _ h => h) (Or.inl ⟨by rfl, ?_⟩) ?_ ?_
        rotate_left
        · intro w'
          go_simp
          with_reducible rfl
        rotate_left
        · simp only [Act.put, List.setIfInBounds_toArray, List.set_cons_zero, List.set_cons_succ, i64_w, i32_w]
          rfl
        refine done_ (done_of HT_.out (by kernel_rfl)) ?_
        go_wp2
        go_ret
        exact ⟨rfl, HBz.out⟩
  · have t0 : (R != 0) = true := by simpa using h0
    have HJA := HJ9.out
    have hz : jappL 262144 [] ab = [] := jappE_no (by rw [HR.out]; exact h0)
    rw [hz] at HJA
    have HJX := Lib.hid HJA.one
    by_cases h1 : R1 = 0
    · have h2 : R2 ≠ 0 := by
        rw [← HR2.out, ← Hb1.out]
        exact joins_no (by rw [HAB.out, HR.out]; exact h0) (by rw [HR1.out]; exact h1)
      have t1 : (R1 != 0) = false := by simpa using h1
      have t2 : (R2 != 0) = true := by simpa using h2
      clear h0 h1 h2 HJA hz HJ9
      go_wp2_with (first
        | (go_at_call 39; refine (len_is HJX.out.disk).mono ?_; rintro e w' ⟨rfl, rfl⟩)
        | (go_at_call 71; refine (awake18_is _).mono ?_; rintro e wa ⟨rfl, hb⟩; have HBa := Lib.hid (HB9.out.trans (hb.mono HB9.out.size)); clear hb))
      go_ret
      exact ⟨rfl, HBa.out⟩
    · have t1 : (R1 != 0) = true := by simpa using h1
      clear h0 h1 HJA hz HJ9
      go_wp2_with (first
        | (go_at_call 39; refine (len_is HJX.out.disk).mono ?_; rintro e w' ⟨rfl, rfl⟩)
        | (go_at_call 71; refine (awake18_is _).mono ?_; rintro e wa ⟨rfl, hb⟩; have HBa := Lib.hid (HB9.out.trans (hb.mono HB9.out.size)); clear hb))
      go_ret
      exact ⟨rfl, HBa.out⟩
theorem jjoins_row (A1 : Option Addr) (c1 : Nat) (a : List K.S26) (A2 : Option Addr) (c2 : Nat) (b : List K.S26) (w : World) (hr1 : Kd.C K.k26 w A1 a.length a) (hc1 : a.length ≤ c1) (_ : True) (hr2 : Kd.C K.k26 w A2 b.length b) (hc2 : b.length ≤ c2) (_ : True)
    (hU : (Open.sum1 (fun x : K.S26 => x.f2.f6.length + 1) a + 1) + (Open.sum1 (fun x : K.S26 => x.f2.f6.length + 1) b + 1) ≤ 1048576) :
    Calls Try.prog 15 #[.slice A1 a.length c1, .slice A2 b.length c2] w fun e w' => e = .returned (.bool true) ∧ Below w.heap.size w w' :=
  jjoins_walk A1 c1 a A2 c2 b w hr1 hc1 hr2 hc2 (by have := sum1_len a; have := sum1_len b; omega)
end Go.Proofs.Ytmbnjgnmblgjoaa.Man
end

-- LawUJournalJoins
section
-- Written by a program of this session (wip/tools/row5.py). Not trusted: Lean checks it.












namespace Go.Proofs.Ytmbnjgnmblgjoaa.journalJoinsUpto
open Go.ChangeShapes Go.WideShapes Go.ChangeAt Go.RowKit Go.Proofs.Ytmbnjgnmblgjoaa.Open
open Go.ChangeMaps (open_string shut_string)
set_option linter.unusedVariables false
theorem own : ownKnob Try.prog.godebug = none := by kernel_rfl
theorem laidOut : laidOutB Try.prog = true := by kernel_rfl
set_option maxRecDepth 100000 in
theorem lifted (os : Os) (started : os.Started) (H : Type) (enc : TypeId × Value → H) (F : Stop.Interp) :
    ReturnsInHanded {} Try.checked os 15 .any ((Rows.OpenSpec.upto Rows.journalJoinsSpec).pre6 enc Try.prog Try.f15 Rows.journalJoinsUptoRow.domain false) (((Rows.OpenSpec.upto Rows.journalJoinsSpec).at F).post enc Try.prog Try.f15 false true false false) := by
  refine returnsInHanded_of_cond_sized (C := Try.checked) (s := Rows.OpenSpec.upto Rows.journalJoinsSpec) (k := Rows.uptoSmall) rfl own started (by kernel_rfl) Try.func15
    (OpenSpec.witness (enc := enc) (C := Try.checked) (s := Rows.OpenSpec.upto Rows.journalJoinsSpec) (k := Rows.uptoSmall) rfl false ⟨#[], #[.slice none 0 0, .slice none 0 0], []⟩ 12 (by kernel_rfl) (by kernel_rfl) (by kernel_rfl)
      (x := ([.nil, .nil], [], [])) (by kernel_rfl) rfl (by kernel_rfl)) ?_
  intro W base args ds gs before hval0 hW hcnd hk0 hsz0 _
  have hsz : (DataW.weightsEach Try.prog (Try.f15.params.toList ++ Rows.journalJoinsSpec.plain.varTypes Try.prog) (ds ++ gs)).all (· ≤ reachBytes) = true := hsz0
  have hval : ∀ (j : Nat) t v, Try.f15.params[j]? = some t → args[j]? = some v → Value.okWide Try.prog W .any base t v := hval0
  have hW' := hW
  obtain ⟨p, q, hA0, hV, rfl, hfz, hnd⟩ := hW
  have hA : DataW.TrodAll enc Try.prog W 0 (fun _ => true) true Try.f15.params.toList args.toList ds p := hA0
  rw [Try.params15] at hA hval hsz
  obtain ⟨v0, vs0, d0, ds0, p0, q0, hargs, rfl, rfl, h0, r0⟩ := trodAll_cons hA
  obtain ⟨v1, vs1, d1, ds1, p1, q1, rfl, rfl, rfl, h1, r1⟩ := trodAll_cons r0
  obtain ⟨rfl, rfl, rfl⟩ := trodAll_nil r1
  obtain rfl : args = #[v0, v1] := by cases args; simp_all
  obtain ⟨rfl, rfl⟩ := trodVars_none hV
  obtain ⟨a0, len0, cap0, rfl⟩ := okWide_slice Try.underlying69 (hval 0 69 v0 rfl rfl)
  obtain ⟨z0, rfl, c0, k0, w0, b0⟩ := Opens.slice_arg opens_ents hsz (j := 0) (t := 69) rfl rfl h0
  have kt0 := h0
  have lt0 : ∀ x ∈ p0, x.block < W.heap.size := by obtain ⟨m, hm⟩ := kt0; exact DataW.trod_lt m _ _ _ hm
  try simp only [sum1_const] at b0
  obtain ⟨a1, len1, cap1, rfl⟩ := okWide_slice Try.underlying69 (hval 1 69 v1 rfl rfl)
  obtain ⟨z1, rfl, c1, k1, w1, b1⟩ := Opens.slice_arg opens_ents hsz (j := 1) (t := 69) rfl rfl h1
  have kt1 := h1
  have lt1 : ∀ x ∈ p1, x.block < W.heap.size := by obtain ⟨m, hm⟩ := kt1; exact DataW.trod_lt m _ _ _ hm
  try simp only [sum1_const] at b1
  have hkk : Rows.uptoBulkAll _ ≤ 1048576 := of_decide_eq_true hk0
  simp only [List.append_nil, Rows.uptoBulkAll] at hkk
  clear hA0 hval0 hsz0 hsz
  refine (Man.jjoins_row a0 cap0 z0 a1 cap1 z1 W k0 c0 w0 k1 c1 w1 (by first | omega | (simp only [] at *; omega))).mono fun e W' ⟨he, bel⟩ => ?_
  subst he
  exact ⟨_, rfl, _, _, _, [], _, [], hW', trodAll_mk1 (shut_bool Try.underlying4 _), (trodAll_cons_mk (Below.trod laidOut (by kernel_rfl) (of_decide_eq_true (by kernel_rfl)) kt0 bel lt0) (trodAll_cons_mk (Below.trod laidOut (by kernel_rfl) (of_decide_eq_true (by kernel_rfl)) kt1 bel lt1) trodAll_mk0)), rfl, bel.frame _, fun h => by cases h⟩
theorem proved : Rows.JournalJoinsUptoSaid :=
  OpenClaim.holds_of_cond 15 Try.f15 rfl rfl rfl rfl rfl rfl rfl ⟨rfl, rfl, rfl, rfl, rfl⟩ rfl rfl rfl rfl rfl (by kernel_rfl) Try.func15 (by kernel_rfl)
    (of_decide_eq_true (by kernel_rfl)) (by unfold Func.isWrapper; first | (rw [if_pos (by decide +kernel)]; kernel_rfl) | (rw [if_neg (by decide +kernel)]; exact ⟨rfl, rfl⟩))
    (fun os started H enc _ F => lifted os started H enc F)
#print axioms proved
end Go.Proofs.Ytmbnjgnmblgjoaa.journalJoinsUpto
namespace Go.Proofs.Ytmbnjgnmblgjoaa
/-- The row, under a short name, for the claim. -/
theorem journalJoinsUpto_holds : Rows.JournalJoinsUptoSaid := journalJoinsUpto.proved
end Go.Proofs.Ytmbnjgnmblgjoaa
end
