-- Laid together by a program of this session (wip/tools/shake.py). Not trusted: Lean checks it.
import Derived.Test.YtmbnjgnmblgjoaaKe2

-- ReadDoc
section
/- codec's reader: tokens. -/

namespace Go.Proofs.Ytmbnjgnmblgjoaa.Man
open Go.RowKit Go.Proofs.YtmbnjgnmblgjoaaW.PrintWords Go.Proofs.YtmbnjgnmblgjoaaW.PrintLast Go.Proofs.YtmbnjgnmblgjoaaW.PrintMore
set_option linter.unusedVariables false
set_option linter.unusedSimpArgs false
set_option maxRecDepth 100000

/-- What a reading leaves: it panics with the error, or hands back what was read, the place behind it. -/
def RdP {α : Type} (w : World) (P : Nat) (A : Option Addr) (c : Nat) (b : List Int) (ret : α → Value → World → Prop) (res : Rd α) (e : Ending) (w' : World) : Prop :=
  w.grownBy w' (some P) ∧ match res with
  | .error f => e = .panicked (errCh f)
  | .ok (x, r) => ∃ v, e = .returned v ∧ ret x v w' ∧ SpotAt w' P A c b.length (b.length - r.length)
theorem RdP.err {α : Type} {w : World} {P : Nat} {A : Option Addr} {c : Nat} {b : List Int} {ret : α → Value → World → Prop} {res : Rd α} {f : Int} {w' : World} (hr : res = .error f) (hg : w.grownBy w' (some P)) : RdP w P A c b ret res (.panicked (errCh f)) w' := by
  subst hr
  exact ⟨hg, rfl⟩
theorem RdP.ok {α : Type} {w : World} {P : Nat} {A : Option Addr} {c : Nat} {b : List Int} {ret : α → Value → World → Prop} {res : Rd α} {x : α} {r : List Int} {v : Value} {w' : World} {q : Nat} (hr : res = .ok (x, r)) (hg : w.grownBy w' (some P)) (hv : ret x v w')
    (hs : SpotAt w' P A c b.length q) (hq : b.length - r.length = q) : RdP w P A c b ret res (.returned v) w' := by
  subst hr
  subst hq
  exact ⟨hg, v, rfl, hv, hs⟩
/-- What is left is the bytes from a place on. -/
theorem rnum_rest {top : Int} {b : List Int} {p : Nat} {n : Int} {r : List Int} (hB : areBytesN b = true) (hp : p ≤ b.length) (h : rnum top (b.drop p) = .ok (n, r)) : ∃ q, q ≤ b.length ∧ r = b.drop q ∧ b.length - r.length = q ∧ 0 ≤ n ∧ n ≤ top := by
  have h2 := rnum_inv (areBytesN_drop hB p) h
  rw [rnum_getF hp] at h
  split at h
  · cases h
  rename_i h0
  split at h
  · cases h
  obtain ⟨q, hq, hpq, hqb⟩ := getF_spot (p := p) hB (by omega)
  simp only [Except.ok.injEq, Prod.mk.injEq] at h
  rw [hq, Int.toNat_natCast] at h
  exact ⟨q, hqb, h.2.symm, by rw [← h.2, List.length_drop]; omega, h2.1, h2.2.1⟩

/-- A row of tokens of the call's own. -/
abbrev TR (w : World) (base : Nat) (v : Value) (xs : List K.S111) : Prop := Kd.R K.k111 111 w base (fun _ => True) v xs
theorem info_tok : (Try.prog.info? 111).map (fun i => (i.zero, i.size, i.bytes)) = some (some (.agg #[.int .i64 0, .int .i64 0, .int .i64 0, .int .i64 0]), 4, 32) := by kernel_rfl
theorem TR.push_ev {ops : Array Oper} {rest : List Oper} {o : Oper} {a : Act} {Q : Exit → Act → World → Prop} {w : World} {base : Nat} {v : Value} {xs : List K.S111} {k t n m : Int} {N : Nat} (hN : w.heap.size = N)
    (h : TR w base v xs) (hgd : o.guard = none) (s x : Operand) (ho : o.op = .call { callee := .builtin .append, args := #[s, x], argTypes := #[22, 22] })
    (hs : a.eval s = v) (hx : a.eval x = .slice (some ⟨N, 0, none⟩) 1 1) (hbase : base ≤ w.heap.size) (hl : xs.length ≤ 4000)
    (kk : ∀ v1 w1, TR w1 base v1 (xs ++ [⟨k, t, n, m⟩]) → Below base w w1 → wpList Try.prog ops Q rest (a.put o.dst v1) w1) : wpList Try.prog ops Q (o :: rest) a (w.alloc (.cells #[.int .i64 k, .int .i64 t, .int .i64 n, .int .i64 m] 111)) :=
  Kd.R_append K.k111 (w0 := w) base hgd s x 22 111 (.agg #[.int .i64 0, .int .i64 0, .int .i64 0, .int .i64 0]) 32 ho Try.underlying22 info_tok rfl (by decide) (by decide) v xs ⟨k, t, n, m⟩ [.int .i64 k, .int .i64 t, .int .i64 n, .int .i64 m] (fun _ => True) (fun _ => False) hs (by rw [hx, hN])
    (K.k111_mkM _ _ _ _) (fun _ h => h.elim) (fun _ _ => trivial) h (Below.refl _ _) hbase (by omega) (fun v1 w1 h1 h2 h3 h4 => kk v1 w1 h1 h2)
theorem TR.grown {w w1 : World} {base P : Nat} {v : Value} {xs : List K.S111} (h : TR w base v xs) (hg : w.grownBy w1 (some P)) (hP : P < base) : TR w1 base v xs :=
  Kd.R_mono (Kd.R_grown (Kd.R_bound h) hg (fun j hj e => by have h1 := hj.2.1; have h2 := Option.some.inj e; omega)) (fun _ _ => trivial)

theorem TR.over {w3 w4 : World} {base P : Nat} {v : Value} {xs : List K.S111} (h : TR w3 base v xs) (hg : w3.grownBy w4 (some P)) (hP : P < base) (T k : Nat) (u : Value) (hT : w3.heap.size ≤ T) : TR (w4.setCell ⟨T, k, none⟩ u) base v xs :=
  Kd.R_mono (Kd.R_grown (Kd.R_grown (Kd.R_bound h) hg (fun j hj e => by have h1 := hj.2.1; have h2 := Option.some.inj e; omega)) (grownBy_set w4 T k u (World.grownBy.refl w4 _)) (fun j hj e => by have h1 := hj.2.2.1; have h2 := Option.some.inj e; omega)) (fun _ _ => trivial)
theorem grown_onB {w w1 w2 : World} {r : Option Nat} {m : Nat} (hg : w.grownBy w1 r) (hb : Below m w1 w2) (hm : w.heap.size ≤ m) : w.grownBy w2 r :=
  ⟨hb.os.trans hg.os, hb.tape.trans hg.tape, hb.output.trans hg.output, Nat.le_trans hg.size hb.size, fun k hk hr => (hb.block k (by omega)).trans (hg.block k hk hr)⟩
theorem grown_setT {w w1 : World} {r : Option Nat} (hg : w.grownBy w1 r) (T k : Nat) (u : Value) (hT : w.heap.size ≤ T) : w.grownBy (w1.setCell ⟨T, k, none⟩ u) r :=
  ⟨hg.os, hg.tape, hg.output, by simpa [World.setCell] using hg.size, fun j hj hr => (Below.heap_setCell w1 ⟨T, k, none⟩ u j (by show j ≠ T; omega)).trans (hg.block j hj hr)⟩
/-- A block that holds a pointer. -/
def PtrAt (w : World) (R P : Nat) : Prop := w.heap[R]? = some (.cells #[.pointer (some ⟨P, 0, none⟩)] 140 (0, 0))
theorem PtrAt.c0 {w : World} {R P : Nat} (k : PtrAt w R P) : w.cell? ⟨R, 0, none⟩ = some (.pointer (some ⟨P, 0, none⟩)) := by simp [World.cell?, show w.heap[R]? = _ from k]
theorem PtrAt.lt {w : World} {R P : Nat} (k : PtrAt w R P) : R < w.heap.size := (Array.getElem?_eq_some_iff.1 k).1
theorem PtrAt.grown {w w1 : World} {R P : Nat} (k : PtrAt w R P) (hg : w.grownBy w1 (some P)) (hP : P < R) : PtrAt w1 R P := (hg.block _ k.lt (by intro e; have := Option.some.inj e; omega)).trans k
theorem SpotAt.grownB {w w1 : World} {P c n p m : Nat} {A : Option Addr} (k : SpotAt w P A c n p) (h : Below m w w1) (hm : P < m) : SpotAt w1 P A c n p := (h.block P hm).trans k

theorem and3 (k : Int) (h0 : 0 ≤ k) (h1 : k ≤ 2147483647) : Go.bits .and .i64 k 3 = k % 4 :=
  bits_mask .i64 63 (by decide) (fun n a b => by
    have b' : n < 9223372036854775808 := b
    rw [IntKind.wrap_i64]; omega) 2 (by decide) k h0 (by simp; omega)

theorem bnd_snoc {α : Type} (r : Rd (List α)) (ys : List α) (x : α) : bnd (bnd r fun xs l => (.ok (x :: xs, l) : Rd (List α))) (fun zs l => (.ok (ys ++ zs, l) : Rd (List α))) = bnd r fun zs l => .ok ((ys ++ [x]) ++ zs, l) := by
  rcases r with f | ⟨zs, l⟩
  · rfl
  · show (Except.ok (ys ++ x :: zs, l) : Rd (List α)) = .ok ((ys ++ [x]) ++ zs, l)
    rw [List.append_assoc]; rfl
theorem TokAt.f {w : World} {P : Nat} {x : K.S111} (k : TokAt w P x) (i : Nat) : w.frozen? ⟨P, i, none⟩ = false := by simp [World.frozen?, show w.heap[P]? = _ from k]

set_option maxHeartbeats 16000000 in
theorem sdoc_is {w0 w : World} {P c p : Nat} {A : Option Addr} {b : List Int} (hC : Kd.C (Kd.int .u8) w0 A b.length b) (hc : b.length ≤ c) (hB : areBytesN b = true) (hb : Below w0.heap.size w0 w) (hP : w0.heap.size ≤ P) (k : SpotAt w P A c b.length p) (hp : p ≤ b.length) :
    Calls Try.prog 125 #[.agg #[.pointer (some ⟨P, 0, none⟩)]] w (RdP w P A c b (fun xs v w' => TR w' w.heap.size v xs) (rdoc (b.drop p))) := by
  have hPl := k.lt
  obtain ⟨w1, hw1⟩ : ∃ w1, w1 = w.alloc (.cells #[.pointer (some ⟨P, 0, none⟩)] 140) := ⟨_, rfl⟩
  have hb1 : Below w.heap.size w w1 := by rw [hw1]; exact (Below.refl _ _).alloc (Nat.le_refl _) _
  have hR1 : PtrAt w1 w.heap.size P := by rw [hw1]; exact World.alloc_heap_new w _
  have hk1 : SpotAt w1 P A c b.length p := k.below hb1 hPl
  have hc1 := Kd.C_below hC (hb.trans (hb1.mono hb.size))
  have hg1 : w.grownBy w1 (some P) := grown_of_below hb1 _
  have HC := Lib.hid hC
  have HBB := Lib.hid hB
  have HG0 := Lib.hid (fun (W : World) (hg : w.grownBy W (some P)) => Kd.C_below hC (below_of_grown hb hg hP))
  clear k
  obtain ⟨X, hX⟩ : ∃ X, rdoc (b.drop p) = X := ⟨_, rfl⟩
  rw [hX]
  unfold rdoc at hX
  rcases hres : rnum 2048 (b.drop p) with f | ⟨n, r⟩
  · rw [hres, bnd_err] at hX
    have HN := Lib.hid (snum_err hk1 hc1 hc hB hp 2048 (by decide) (by decide) f hres)
    have HG1 := Lib.hid hg1
    have HX := Lib.hid hX.symm
    rw [hw1] at HN HG1
    clear hC hB hb hR1 hk1 hc1 hg1 hw1 hb1 hres hX HG0
    go_enter Try.func125, Try.ntmps125
    go_wp2_with (go_at_call 131; refine HN.out.mono ?_; rintro e w2 ⟨rfl, hg⟩; have HG2 := Lib.hid (HG1.out.trans hg); clear hg)
    exact ⟨rfl, RdP.err HX.out HG2.out⟩
  · obtain ⟨q, hq, rfl, hql, hn0, hn1⟩ := rnum_rest hB hp hres
    have hN := snum_ok hk1 hc1 hc hB hp 2048 (by decide) (by decide) n _ hres
    rw [hql] at hN
    rw [hres, bnd_ok] at hX
    obtain ⟨N, rfl⟩ : ∃ N : Nat, n = (N : Int) := ⟨n.toNat, by omega⟩
    rw [Int.toNat_natCast] at hX
    have HN := Lib.hid hN
    have HG1 := Lib.hid hg1
    have HX := Lib.hid hX.symm
    have HR1 := Lib.hid hR1
    have HW1 := Lib.hid hw1
    rw [hw1] at HN
    clear hC hB hb hR1 hk1 hc1 hg1 hw1 hb1 hres hX hN
    go_enter Try.func125, Try.ntmps125
    go_wp2_with (go_at_call 131; refine HN.out.mono ?_; rintro e w2 ⟨rfl, hk, hg⟩; rw [← HW1.out] at hg; have HK2 := Lib.hid hk; have HG2 := Lib.hid (HG1.out.trans hg); have HR2 := Lib.hid (HR1.out.grown hg hPl); clear hk hg)
    go_loopg [4, 11] N (fun g s4 s11 wr => ∃ (i q : Nat) (ys : List K.S111), s11 = .int .i64 i ∧ i ≤ N ∧ g = N - i ∧ q ≤ b.length ∧ ys.length = i ∧ Hid (X = bnd (rtoks (N - i) (b.drop q)) fun zs l => .ok (ys ++ zs, l)) ∧ Hid (TR wr (w.heap.size + 1) s4 ys) ∧ Hid (SpotAt wr P A c b.length q) ∧ Hid (w.grownBy wr (some P)) ∧ Hid (PtrAt wr w.heap.size P))
    case atStart => exact ⟨0, q, [], rfl, Nat.zero_le _, rfl, hq, rfl, Lib.hid (by
      rw [HX.out, Nat.sub_zero]
      rcases rtoks N (b.drop q) with f | ⟨zs, l⟩
      · rfl
      · rfl), Lib.hid (Kd.R_nil _ _ _ _ _), HK2, HG2, HR2⟩
    case round =>
      clear HX HK2 HG2 HR2 HN hql hq HG1 HR1 HW1
      obtain ⟨i, q1, ys, rfl, hi, hg, hq1, hyl, HX, HT, HK, HG, HR⟩ := hrel
      have r0 := HR.out.c0
      by_cases hlt : i < N
      · obtain ⟨d, hd⟩ : ∃ d, N - i = d + 1 := ⟨N - i - 1, by omega⟩
        have hd2 : N - (i + 1) = d := by omega
        have hX := HX.out
        rw [hd, rtoks] at hX
        unfold rtok most at hX
        have hwz : w.heap.size + 1 ≤ wr.heap.size := HR.out.lt
        have hcr := HG0.out wr HG.out
        clear HX
        rcases hres : rnum 2147483647 (b.drop q1) with f | ⟨kk, r⟩
        · rw [hres, bnd_err, bnd_err, bnd_err] at hX
          have HN := Lib.hid (snum_err HK.out hcr hc HBB.out hq1 2147483647 (by decide) (by decide) f hres)
          have HX := Lib.hid hX
          clear hres hX hcr hd hd2
          go_wp2_with (go_at_call 131; refine HN.out.mono ?_; rintro e w3 ⟨rfl, hg⟩; have HG3 := Lib.hid (HG.out.trans hg); clear hg)
          exact ⟨rfl, RdP.err HX.out HG3.out⟩
        · obtain ⟨q2, hq2, rfl, hql2, hk0, hk1⟩ := rnum_rest HBB.out hq1 hres
          have hN := snum_ok HK.out hcr hc HBB.out hq1 2147483647 (by decide) (by decide) kk _ hres
          rw [hql2] at hN
          rw [hres, bnd_ok] at hX
          have HN := Lib.hid hN
          have hand := and3 kk hk0 (by omega)
          obtain ⟨a, ha⟩ : ∃ a, kk % 4 = a := ⟨_, rfl⟩
          rw [ha] at hand
          have haa : a = 0 ∨ a = 1 ∨ a = 2 ∨ a = 3 := by omega
          have HA := Lib.hid ha
          have hyl2 : ys.length ≤ 2048 := by omega
          have HX := Lib.hid hX
          have HD := Lib.hid hd2
          clear hres hX hcr hd hN hd2 ha
          go_upto_region 6 with (go_at_call 131; refine HN.out.mono ?_; rintro e w3 ⟨rfl, hk, hg⟩; have HK3 := Lib.hid hk; have HG3 := Lib.hid (HG.out.trans hg); have HR3 := Lib.hid (HR.out.grown hg hPl); have HT3 := Lib.hid (HT.out.grown hg (by omega)); clear hk hg)
          rcases haa with rfl | rfl | rfl | rfl
          · have hX := HX.out
            rw [HA.out, if_pos rfl] at hX
            have hbt : Below w3.heap.size w3 (w3.alloc (.cells #[.int .i64 0, .int .i64 0, .int .i64 (kk / 4), .int .i64 0] 111)) := (Below.refl _ _).alloc (Nat.le_refl _) _
            have HTK : Hid (TokAt (w3.alloc (.cells #[.int .i64 0, .int .i64 0, .int .i64 (kk / 4), .int .i64 0] 111)) w3.heap.size ⟨0, 0, kk / 4, 0⟩) := Lib.hid (World.alloc_heap_new w3 _)
            have hGt : w.grownBy (w3.alloc (.cells #[.int .i64 0, .int .i64 0, .int .i64 (kk / 4), .int .i64 0] 111)) (some P) := HG3.out.trans (grown_of_below hbt _)
            have hKt := HK3.out.grownB hbt HK3.out.lt
            have rt := (HR3.out.grown (grown_of_below hbt _) hPl).c0
            have hCt := HG0.out _ hGt
            have HGT := Lib.hid hGt
            have HBT := Lib.hid hbt
            rcases hres : rnum 2147483647 (b.drop q2) with f | ⟨m, r⟩
            · rw [hres] at hX
              have HN2 := Lib.hid (snum_err hKt hCt hc HBB.out hq2 2147483647 (by decide) (by decide) f hres)
              have HX2 := Lib.hid (show X = .error f from hX)
              clear hres hX hbt hGt hKt hCt HX HTK
              go_wp2_with (go_at_call 131; refine HN2.out.mono ?_; rintro e w4 ⟨rfl, hg⟩; have HG4 := Lib.hid (HGT.out.trans hg); clear hg)
              exact ⟨rfl, RdP.err HX2.out HG4.out⟩
            · obtain ⟨q3, hq3, rfl, hql3, hm0, hm1⟩ := rnum_rest HBB.out hq2 hres
              have hN2 := snum_ok hKt hCt hc HBB.out hq2 2147483647 (by decide) (by decide) m _ hres
              rw [hql3] at hN2
              rw [hres] at hX
              have HN2 := Lib.hid hN2
              have HX2 : Hid (X = bnd (rtoks (N - (i + 1)) (b.drop q3)) fun zs l => .ok ((ys ++ [⟨0, 0, kk / 4, m⟩]) ++ zs, l)) := Lib.hid (by rw [HD.out, ← bnd_snoc]; exact hX)
              clear hres hX hbt hGt hKt hCt hN2 HX HN
              go_wp2_with (first
                | (go_at_call 131; refine HN2.out.mono ?_; rintro e w4 ⟨rfl, hk, hg⟩; have HK4 := Lib.hid hk; have hT4 : TokAt w4 w3.heap.size ⟨0, 0, kk / 4, 0⟩ := (hg.block _ HTK.out.lt (by intro e; have e2 := Option.some.inj e; have := HK3.out.lt; omega)).trans HTK.out; have d0 := hT4.c0; have d1 := hT4.c1; have d2 := hT4.c2; have d3 := hT4.c3; have df := hT4.f 3; have HG4 := Lib.hid (HGT.out.trans hg); have HT4 := Lib.hid (TR.over HT3.out ((grown_of_below HBT.out _).trans hg) (by omega) w3.heap.size 3 (.int .i64 m) (Nat.le_refl _)); have HR4 := Lib.hid ((HR3.out.grown (grown_of_below HBT.out _) hPl).grown hg hPl); have HZ4 : Hid (w3.heap.size < w4.heap.size) := Lib.hid hT4.lt; clear hk hg hT4)
                | (at_builtin; refine TR.push_ev (w := w4.setCell ⟨w3.heap.size, 3, none⟩ (.int .i64 m)) (N := w4.heap.size) (by simp [World.setCell]) HT4.out rfl (.tmp 36) (.tmp 38) rfl rfl rfl (by have := HR4.out.lt; simp [World.setCell]; omega) (by omega) ?_; intro v5 w5 hr5 hb5; have HT5 := Lib.hid hr5; have HG5 := Lib.hid (grown_onB (grown_setT HG4.out w3.heap.size 3 (.int .i64 m) HG3.out.size) hb5 (Nat.le_succ _)); have HR5 : Hid (PtrAt w5 w.heap.size P) := Lib.hid ((hb5.block _ (Nat.lt_succ_self _)).trans ((Below.heap_setCell w4 _ _ _ (by have := HR3.out.lt; show w.heap.size ≠ w3.heap.size; omega)).trans HR4.out)); have HK5 : Hid (SpotAt w5 P A c b.length q3) := Lib.hid ((hb5.block _ (by omega)).trans ((Below.heap_setCell w4 _ _ _ (by have := HK3.out.lt; show P ≠ w3.heap.size; omega)).trans HK4.out)); clear hr5 hb5))
              go_roundg (N - (i + 1))
              case measure => omega
              case rel => exact ⟨i + 1, q3, ys ++ [⟨0, 0, kk / 4, m⟩], by go_num, by omega, rfl, hq3, by rw [List.length_append, hyl]; rfl, HX2, HT5, HK5, HG5, HR5⟩
          · have hX := HX.out
            rw [HA.out, if_neg (by decide), if_pos (by decide)] at hX
            have hbt : Below w3.heap.size w3 (w3.alloc (.cells #[.int .i64 1, .int .i64 0, .int .i64 (kk / 4), .int .i64 0] 111)) := (Below.refl _ _).alloc (Nat.le_refl _) _
            have HTK : Hid (TokAt (w3.alloc (.cells #[.int .i64 1, .int .i64 0, .int .i64 (kk / 4), .int .i64 0] 111)) w3.heap.size ⟨1, 0, kk / 4, 0⟩) := Lib.hid (World.alloc_heap_new w3 _)
            have hGt : w.grownBy (w3.alloc (.cells #[.int .i64 1, .int .i64 0, .int .i64 (kk / 4), .int .i64 0] 111)) (some P) := HG3.out.trans (grown_of_below hbt _)
            have hKt := HK3.out.grownB hbt HK3.out.lt
            have rt := (HR3.out.grown (grown_of_below hbt _) hPl).c0
            have hCt := HG0.out _ hGt
            have HGT := Lib.hid hGt
            have HBT := Lib.hid hbt
            rcases hres : rnum 2147483647 (b.drop q2) with f | ⟨m, r⟩
            · rw [hres] at hX
              have HN2 := Lib.hid (snum_err hKt hCt hc HBB.out hq2 2147483647 (by decide) (by decide) f hres)
              have HX2 := Lib.hid (show X = .error f from hX)
              clear hres hX hbt hGt hKt hCt HX HTK
              go_wp2_with (go_at_call 131; refine HN2.out.mono ?_; rintro e w4 ⟨rfl, hg⟩; have HG4 := Lib.hid (HGT.out.trans hg); clear hg)
              exact ⟨rfl, RdP.err HX2.out HG4.out⟩
            · obtain ⟨q3, hq3, rfl, hql3, hm0, hm1⟩ := rnum_rest HBB.out hq2 hres
              have hN2 := snum_ok hKt hCt hc HBB.out hq2 2147483647 (by decide) (by decide) m _ hres
              rw [hql3] at hN2
              rw [hres] at hX
              have HN2 := Lib.hid hN2
              have HX2 : Hid (X = bnd (rtoks (N - (i + 1)) (b.drop q3)) fun zs l => .ok ((ys ++ [⟨1, m, kk / 4, 0⟩]) ++ zs, l)) := Lib.hid (by rw [HD.out, ← bnd_snoc]; exact hX)
              clear hres hX hbt hGt hKt hCt hN2 HX HN
              go_wp2_with (first
                | (go_at_call 131; refine HN2.out.mono ?_; rintro e w4 ⟨rfl, hk, hg⟩; have HK4 := Lib.hid hk; have hT4 : TokAt w4 w3.heap.size ⟨1, 0, kk / 4, 0⟩ := (hg.block _ HTK.out.lt (by intro e; have e2 := Option.some.inj e; have := HK3.out.lt; omega)).trans HTK.out; have d0 := hT4.c0; have d1 := hT4.c1; have d2 := hT4.c2; have d3 := hT4.c3; have df := hT4.f 1; have HG4 := Lib.hid (HGT.out.trans hg); have HT4 := Lib.hid (TR.over HT3.out ((grown_of_below HBT.out _).trans hg) (by omega) w3.heap.size 1 (.int .i64 m) (Nat.le_refl _)); have HR4 := Lib.hid ((HR3.out.grown (grown_of_below HBT.out _) hPl).grown hg hPl); have HZ4 : Hid (w3.heap.size < w4.heap.size) := Lib.hid hT4.lt; clear hk hg hT4)
                | (at_builtin; refine TR.push_ev (w := w4.setCell ⟨w3.heap.size, 1, none⟩ (.int .i64 m)) (N := w4.heap.size) (by simp [World.setCell]) HT4.out rfl (.tmp 36) (.tmp 38) rfl rfl rfl (by have := HR4.out.lt; simp [World.setCell]; omega) (by omega) ?_; intro v5 w5 hr5 hb5; have HT5 := Lib.hid hr5; have HG5 := Lib.hid (grown_onB (grown_setT HG4.out w3.heap.size 1 (.int .i64 m) HG3.out.size) hb5 (Nat.le_succ _)); have HR5 : Hid (PtrAt w5 w.heap.size P) := Lib.hid ((hb5.block _ (Nat.lt_succ_self _)).trans ((Below.heap_setCell w4 _ _ _ (by have := HR3.out.lt; show w.heap.size ≠ w3.heap.size; omega)).trans HR4.out)); have HK5 : Hid (SpotAt w5 P A c b.length q3) := Lib.hid ((hb5.block _ (by omega)).trans ((Below.heap_setCell w4 _ _ _ (by have := HK3.out.lt; show P ≠ w3.heap.size; omega)).trans HK4.out)); clear hr5 hb5))
              go_roundg (N - (i + 1))
              case measure => omega
              case rel => exact ⟨i + 1, q3, ys ++ [⟨1, m, kk / 4, 0⟩], by go_num, by omega, rfl, hq3, by rw [List.length_append, hyl]; rfl, HX2, HT5, HK5, HG5, HR5⟩
          · have hX := HX.out
            rw [HA.out, if_neg (by decide), if_neg (by decide)] at hX
            have HX2 : Hid (X = bnd (rtoks (N - (i + 1)) (b.drop q2)) fun zs l => .ok ((ys ++ [⟨2, 0, kk / 4, 0⟩]) ++ zs, l)) := Lib.hid (by rw [HD.out, ← bnd_snoc]; exact hX)
            have hbt : Below w3.heap.size w3 (w3.alloc (.cells #[.int .i64 2, .int .i64 0, .int .i64 (kk / 4), .int .i64 0] 111)) := (Below.refl _ _).alloc (Nat.le_refl _) _
            have HKT := Lib.hid (HK3.out.grownB hbt HK3.out.lt)
            have HGT := Lib.hid (HG3.out.trans (grown_of_below hbt (some P)))
            have HRT := Lib.hid (HR3.out.grown (grown_of_below hbt _) hPl)
            have HTT := Lib.hid (HT3.out.grown (grown_of_below hbt (some P)) (by omega))
            have HZT : Hid (w.heap.size + 1 ≤ (w3.alloc (.cells #[.int .i64 2, .int .i64 0, .int .i64 (kk / 4), .int .i64 0] 111)).heap.size) := Lib.hid HRT.out.lt
            clear hX hbt HX HN
            go_wp2_with (at_builtin; refine TR.push_ev (w := w3.alloc (.cells #[.int .i64 2, .int .i64 0, .int .i64 (kk / 4), .int .i64 0] 111)) (N := w3.heap.size + 1) (World.size_alloc _ _) HTT.out rfl (.tmp 36) (.tmp 38) rfl rfl rfl HZT.out (by omega) ?_; intro v5 w5 hr5 hb5; have HT5 := Lib.hid hr5; have HG5 := Lib.hid (grown_onB HGT.out hb5 (Nat.le_succ _)); have HR5 : Hid (PtrAt w5 w.heap.size P) := Lib.hid ((hb5.block _ (Nat.lt_succ_self _)).trans HRT.out); have HK5 : Hid (SpotAt w5 P A c b.length q2) := Lib.hid ((hb5.block _ (by omega)).trans HKT.out); clear hr5 hb5)
            go_roundg (N - (i + 1))
            case measure => omega
            case rel => exact ⟨i + 1, q2, ys ++ [⟨2, 0, kk / 4, 0⟩], by go_num, by omega, rfl, hq2, by rw [List.length_append, hyl]; rfl, HX2, HT5, HK5, HG5, HR5⟩
          · have hX := HX.out
            rw [HA.out, if_neg (by decide), if_pos (by decide)] at hX
            have hbt : Below w3.heap.size w3 (w3.alloc (.cells #[.int .i64 3, .int .i64 0, .int .i64 (kk / 4), .int .i64 0] 111)) := (Below.refl _ _).alloc (Nat.le_refl _) _
            have HTK : Hid (TokAt (w3.alloc (.cells #[.int .i64 3, .int .i64 0, .int .i64 (kk / 4), .int .i64 0] 111)) w3.heap.size ⟨3, 0, kk / 4, 0⟩) := Lib.hid (World.alloc_heap_new w3 _)
            have hGt : w.grownBy (w3.alloc (.cells #[.int .i64 3, .int .i64 0, .int .i64 (kk / 4), .int .i64 0] 111)) (some P) := HG3.out.trans (grown_of_below hbt _)
            have hKt := HK3.out.grownB hbt HK3.out.lt
            have rt := (HR3.out.grown (grown_of_below hbt _) hPl).c0
            have hCt := HG0.out _ hGt
            have HGT := Lib.hid hGt
            have HBT := Lib.hid hbt
            rcases hres : rnum 2147483647 (b.drop q2) with f | ⟨m, r⟩
            · rw [hres] at hX
              have HN2 := Lib.hid (snum_err hKt hCt hc HBB.out hq2 2147483647 (by decide) (by decide) f hres)
              have HX2 := Lib.hid (show X = .error f from hX)
              clear hres hX hbt hGt hKt hCt HX HTK
              go_wp2_with (go_at_call 131; refine HN2.out.mono ?_; rintro e w4 ⟨rfl, hg⟩; have HG4 := Lib.hid (HGT.out.trans hg); clear hg)
              exact ⟨rfl, RdP.err HX2.out HG4.out⟩
            · obtain ⟨q3, hq3, rfl, hql3, hm0, hm1⟩ := rnum_rest HBB.out hq2 hres
              have hN2 := snum_ok hKt hCt hc HBB.out hq2 2147483647 (by decide) (by decide) m _ hres
              rw [hql3] at hN2
              rw [hres] at hX
              have HN2 := Lib.hid hN2
              have HX2 : Hid (X = bnd (rtoks (N - (i + 1)) (b.drop q3)) fun zs l => .ok ((ys ++ [⟨3, m, kk / 4, 0⟩]) ++ zs, l)) := Lib.hid (by rw [HD.out, ← bnd_snoc]; exact hX)
              clear hres hX hbt hGt hKt hCt hN2 HX HN
              go_wp2_with (first
                | (go_at_call 131; refine HN2.out.mono ?_; rintro e w4 ⟨rfl, hk, hg⟩; have HK4 := Lib.hid hk; have hT4 : TokAt w4 w3.heap.size ⟨3, 0, kk / 4, 0⟩ := (hg.block _ HTK.out.lt (by intro e; have e2 := Option.some.inj e; have := HK3.out.lt; omega)).trans HTK.out; have d0 := hT4.c0; have d1 := hT4.c1; have d2 := hT4.c2; have d3 := hT4.c3; have df := hT4.f 1; have HG4 := Lib.hid (HGT.out.trans hg); have HT4 := Lib.hid (TR.over HT3.out ((grown_of_below HBT.out _).trans hg) (by omega) w3.heap.size 1 (.int .i64 m) (Nat.le_refl _)); have HR4 := Lib.hid ((HR3.out.grown (grown_of_below HBT.out _) hPl).grown hg hPl); have HZ4 : Hid (w3.heap.size < w4.heap.size) := Lib.hid hT4.lt; clear hk hg hT4)
                | (at_builtin; refine TR.push_ev (w := w4.setCell ⟨w3.heap.size, 1, none⟩ (.int .i64 m)) (N := w4.heap.size) (by simp [World.setCell]) HT4.out rfl (.tmp 36) (.tmp 38) rfl rfl rfl (by have := HR4.out.lt; simp [World.setCell]; omega) (by omega) ?_; intro v5 w5 hr5 hb5; have HT5 := Lib.hid hr5; have HG5 := Lib.hid (grown_onB (grown_setT HG4.out w3.heap.size 1 (.int .i64 m) HG3.out.size) hb5 (Nat.le_succ _)); have HR5 : Hid (PtrAt w5 w.heap.size P) := Lib.hid ((hb5.block _ (Nat.lt_succ_self _)).trans ((Below.heap_setCell w4 _ _ _ (by have := HR3.out.lt; show w.heap.size ≠ w3.heap.size; omega)).trans HR4.out)); have HK5 : Hid (SpotAt w5 P A c b.length q3) := Lib.hid ((hb5.block _ (by omega)).trans ((Below.heap_setCell w4 _ _ _ (by have := HK3.out.lt; show P ≠ w3.heap.size; omega)).trans HK4.out)); clear hr5 hb5))
              go_roundg (N - (i + 1))
              case measure => omega
              case rel => exact ⟨i + 1, q3, ys ++ [⟨3, m, kk / 4, 0⟩], by go_num, by omega, rfl, hq3, by rw [List.length_append, hyl]; rfl, HX2, HT5, HK5, HG5, HR5⟩
      · obtain rfl : i = N := by omega
        have hX := HX.out
        rw [Nat.sub_self, rtoks, bnd_ok, List.append_nil] at hX
        have HXX := Lib.hid hX
        clear hX HX
        go_wp2
        go_ret
        exact RdP.ok HXX.out HG.out (Kd.R_lower HT.out (Nat.le_succ _)) HK.out (by rw [List.length_drop]; omega)
end Go.Proofs.Ytmbnjgnmblgjoaa.Man
end

-- ReadEnt
section
/- codec's reader: an entry. Printed by wip/tools/gen_readent.py. -/


namespace Go.Proofs.Ytmbnjgnmblgjoaa.Man
open Go.RowKit Go.Proofs.YtmbnjgnmblgjoaaW.PrintWords Go.Proofs.YtmbnjgnmblgjoaaW.PrintLast Go.Proofs.YtmbnjgnmblgjoaaW.PrintMore
set_option linter.unusedVariables false
set_option linter.unusedSimpArgs false
set_option maxRecDepth 100000

/-- A call of a Go function in a region, by its contract; it may panic. -/
theorem goesP_ {P : Program} {ops : Array Oper} {Q : Exit → Act → World → Prop} {oi : Oper} {N : Option Tmp} {a : Act} {w : World} {K : Act → World → Prop} {f : FuncId} {fn : Func} {ags : Array Operand} {ts : Array TypeId} (hf : P.funcs[f]? = some fn) (hname : (fn.name == "runtime.NumGoroutine") = false) (hb : fn.body.isSome = true) (args : Array Value)
    (hw : Region.wanted oi (yielded ops a.tmps) = true) (hN : oi.dst = N) (hop : oi.op = .call { callee := .value (.func f), args := ags, argTypes := ts }) (hargs : ags.map a.eval = args)
    (h : Calls P f args w fun e w' => (∃ v, e = .returned v ∧ K (a.put N v) w') ∨ ∃ ch, e = .panicked ch ∧ Q (.panic ch) a w') : if Region.wanted oi (yielded ops a.tmps) = true then Oper.wp P oi a w K Q else K (a.put N undef) w := by
  have he := enters_ hf hname hb args w
  have hrun : (execOp a.eval oi).run P w = .ok (.enter f args) w := by
    unfold execOp
    simp [hop, resolve, Deferred.ofValue, invoke, Act.eval, hargs, he]
  rw [if_pos hw]
  subst hN
  unfold Oper.wp
  rw [hrun, Oper.upon_enter]
  refine h.mono fun e w'' hh => ?_
  rcases hh with ⟨v, rfl, hk⟩ | ⟨ch, rfl, hk⟩
  · exact hk
  · exact hk

/-- An entry's block, its slice any value. -/
def EntC (w : World) (E : Nat) (a0 a1 a2 a3 a4 a5 a6 a7 : Int) (v : Value) (a9 : Int) : Prop := w.heap[E]? = some (.cells #[.int .i64 a0, .int .i64 a1, .int .i64 a2, .int .i64 a3, .int .i64 a4, .int .i64 a5, .int .i64 a6, .int .i64 a7, v, .int .i64 a9] 26 (0, 0))
/-- What a reading of an entry stands at: the place, the reader's box, the entry's block. -/
structure EnS (w W : World) (P : Nat) (A : Option Addr) (c n q : Nat) (a0 a1 a2 a3 a4 a5 a6 a7 : Int) (v : Value) (a9 : Int) : Prop where
  spot : SpotAt W P A c n q
  ptr : PtrAt W w.heap.size P
  ent : EntC W (w.heap.size + 1) a0 a1 a2 a3 a4 a5 a6 a7 v a9
  grown : w.grownBy W (some P)
section
variable {w W W' : World} {P c n q q' : Nat} {A : Option Addr} {a0 a1 a2 a3 a4 a5 a6 a7 a9 : Int} {v : Value}
theorem EnS.size (h : EnS w W P A c n q a0 a1 a2 a3 a4 a5 a6 a7 v a9) : w.heap.size + 2 ≤ W.heap.size := (Array.getElem?_eq_some_iff.1 h.ent).1
theorem EnS.num (h : EnS w W P A c n q a0 a1 a2 a3 a4 a5 a6 a7 v a9) (hP : P < w.heap.size) (hk : SpotAt W' P A c n q') (hg : W.grownBy W' (some P)) : EnS w W' P A c n q' a0 a1 a2 a3 a4 a5 a6 a7 v a9 :=
  ⟨hk, h.ptr.grown hg hP, (hg.block _ (Array.getElem?_eq_some_iff.1 h.ent).1 (by intro e; have e2 := Option.some.inj e; omega)).trans h.ent, h.grown.trans hg⟩
theorem EnS.below (h : EnS w W P A c n q a0 a1 a2 a3 a4 a5 a6 a7 v a9) (hP : P < w.heap.size) (hb : Below W.heap.size W W') : EnS w W' P A c n q a0 a1 a2 a3 a4 a5 a6 a7 v a9 :=
  h.num hP (h.spot.below hb h.spot.lt) (grown_of_below hb _)
theorem EnS.drew (h : EnS w W P A c n q a0 a1 a2 a3 a4 a5 a6 a7 v a9) (hP : P < w.heap.size) : EnS w W.drew P A c n q a0 a1 a2 a3 a4 a5 a6 a7 v a9 := h.below hP (below_drew1 (Below.refl _ _))
theorem EnS.f (h : EnS w W P A c n q a0 a1 a2 a3 a4 a5 a6 a7 v a9) (i : Nat) : W.frozen? ⟨w.heap.size + 1, i, none⟩ = false := by simp [World.frozen?, show W.heap[w.heap.size + 1]? = _ from h.ent]
theorem EnS.put (h : EnS w W P A c n q a0 a1 a2 a3 a4 a5 a6 a7 v a9) (hP : P < w.heap.size) (i : Nat) (u : Value) {b0 b1 b2 b3 b4 b5 b6 b7 b9 : Int} {v' : Value}
    (he : (#[.int .i64 a0, .int .i64 a1, .int .i64 a2, .int .i64 a3, .int .i64 a4, .int .i64 a5, .int .i64 a6, .int .i64 a7, v, .int .i64 a9] : Array Value).setIfInBounds i u = #[.int .i64 b0, .int .i64 b1, .int .i64 b2, .int .i64 b3, .int .i64 b4, .int .i64 b5, .int .i64 b6, .int .i64 b7, v', .int .i64 b9]) :
    EnS w (W.setCell ⟨w.heap.size + 1, i, none⟩ u) P A c n q b0 b1 b2 b3 b4 b5 b6 b7 v' b9 := by
  refine ⟨(Below.heap_setCell W _ _ _ (by show P ≠ w.heap.size + 1; omega)).trans h.spot, (Below.heap_setCell W _ _ _ (by show w.heap.size ≠ w.heap.size + 1; omega)).trans h.ptr, ?_, grown_setT h.grown _ _ _ (Nat.le_succ _)⟩
  unfold EntC World.setCell
  have h1 := h.ent
  unfold EntC at h1
  have he2 := congrArg Array.toList he
  simp [Array.getElem?_modify, h1]
  simpa using he2
theorem EnS.c0 (h : EnS w W P A c n q a0 a1 a2 a3 a4 a5 a6 a7 v a9) : W.cell? ⟨w.heap.size + 1, 0, none⟩ = some (.int .i64 a0) := by simp [World.cell?, show W.heap[w.heap.size + 1]? = _ from h.ent]
theorem EnS.c1 (h : EnS w W P A c n q a0 a1 a2 a3 a4 a5 a6 a7 v a9) : W.cell? ⟨w.heap.size + 1, 1, none⟩ = some (.int .i64 a1) := by simp [World.cell?, show W.heap[w.heap.size + 1]? = _ from h.ent]
theorem EnS.c2 (h : EnS w W P A c n q a0 a1 a2 a3 a4 a5 a6 a7 v a9) : W.cell? ⟨w.heap.size + 1, 2, none⟩ = some (.int .i64 a2) := by simp [World.cell?, show W.heap[w.heap.size + 1]? = _ from h.ent]
theorem EnS.c3 (h : EnS w W P A c n q a0 a1 a2 a3 a4 a5 a6 a7 v a9) : W.cell? ⟨w.heap.size + 1, 3, none⟩ = some (.int .i64 a3) := by simp [World.cell?, show W.heap[w.heap.size + 1]? = _ from h.ent]
theorem EnS.c4 (h : EnS w W P A c n q a0 a1 a2 a3 a4 a5 a6 a7 v a9) : W.cell? ⟨w.heap.size + 1, 4, none⟩ = some (.int .i64 a4) := by simp [World.cell?, show W.heap[w.heap.size + 1]? = _ from h.ent]
theorem EnS.c5 (h : EnS w W P A c n q a0 a1 a2 a3 a4 a5 a6 a7 v a9) : W.cell? ⟨w.heap.size + 1, 5, none⟩ = some (.int .i64 a5) := by simp [World.cell?, show W.heap[w.heap.size + 1]? = _ from h.ent]
theorem EnS.c6 (h : EnS w W P A c n q a0 a1 a2 a3 a4 a5 a6 a7 v a9) : W.cell? ⟨w.heap.size + 1, 6, none⟩ = some (.int .i64 a6) := by simp [World.cell?, show W.heap[w.heap.size + 1]? = _ from h.ent]
theorem EnS.c7 (h : EnS w W P A c n q a0 a1 a2 a3 a4 a5 a6 a7 v a9) : W.cell? ⟨w.heap.size + 1, 7, none⟩ = some (.int .i64 a7) := by simp [World.cell?, show W.heap[w.heap.size + 1]? = _ from h.ent]
theorem EnS.c8 (h : EnS w W P A c n q a0 a1 a2 a3 a4 a5 a6 a7 v a9) : W.cell? ⟨w.heap.size + 1, 8, none⟩ = some (v) := by simp [World.cell?, show W.heap[w.heap.size + 1]? = _ from h.ent]
theorem EnS.c9 (h : EnS w W P A c n q a0 a1 a2 a3 a4 a5 a6 a7 v a9) : W.cell? ⟨w.heap.size + 1, 9, none⟩ = some (.int .i64 a9) := by simp [World.cell?, show W.heap[w.heap.size + 1]? = _ from h.ent]
end
theorem TR.set {w : World} {base E : Nat} {v : Value} {xs : List K.S111} (h : TR w base v xs) (hE : E < base) (k : Nat) (u : Value) : TR (w.setCell ⟨E, k, none⟩ u) base v xs := h.grown (grownBy_set w E k u (World.grownBy.refl w _)) hE
theorem RdP.err_inv {α : Type} {w : World} {P : Nat} {A : Option Addr} {c : Nat} {b : List Int} {ret : α → Value → World → Prop} {f : Int} {e : Ending} {w' : World} (h : RdP w P A c b ret (.error f) e w') : e = .panicked (errCh f) ∧ w.grownBy w' (some P) := ⟨h.2, h.1⟩
theorem RdP.ok_inv {α : Type} {w : World} {P : Nat} {A : Option Addr} {c : Nat} {b : List Int} {ret : α → Value → World → Prop} {x : α} {r : List Int} {e : Ending} {w' : World} (h : RdP w P A c b ret (.ok (x, r)) e w') : ∃ v, e = .returned v ∧ ret x v w' ∧ SpotAt w' P A c b.length (b.length - r.length) ∧ w.grownBy w' (some P) := by
  obtain ⟨hg, v, he, hv, hs⟩ := h
  exact ⟨v, he, hv, hs, hg⟩
/-- An entry handed back. -/
def EntR (base : Nat) (x : K.S26) (r : Value) (w' : World) : Prop := ∃ u, r = .agg #[.int .i64 x.f0, .int .i64 x.f1, .int .i64 x.f2.f0, .int .i64 x.f2.f1, .int .i64 x.f2.f2, .int .i64 x.f2.f3, .int .i64 x.f2.f4, .int .i64 x.f2.f5, u, .int .i64 x.f2.f7] ∧ TR w' base u x.f2.f6
def entR1.T : Bool × List (List Nat × List Nat) := (true, [([], []), ([0], [0]), ([1], [1]), ([], []), ([3], [3]), ([4, 2], [4]), ([0, 1, 2, 5], []), ([6, 2, 5, 0, 1, 2, 5], [2, 6]), ([0, 1, 2, 3, 4, 5, 6, 7], []), ([8, 5, 7, 0, 1, 2, 3, 4, 5, 6, 7], [5, 8])])
def entR1.B : List Nat := [0, 1, 3, 0, 8, 31, 63, 127, 255, 511]
theorem entR1.tab : rtab .any (opsOf Try.f94 1) = entR1.T := by kernel_rfl
theorem entR1.bits : waitsOk entR1.T.2 entR1.B = true := by kernel_rfl
def entR3.T : Bool × List (List Nat × List Nat) := (true, [([], []), ([], []), ([], []), ([], []), ([3], [3]), ([4], [4]), ([], []), ([6], [6]), ([7, 5], [7]), ([], []), ([9], [9]), ([10, 8], [10]), ([0, 0, 3, 4, 5, 8, 11], [0]), ([12, 0, 3, 4, 5, 8, 11], [12]), ([13, 5, 11, 0, 3, 4, 5, 8, 11], [5, 13]), ([1, 0, 1, 3, 4, 5, 6, 7, 8, 11, 12, 13, 14], [1]), ([15, 0, 1, 3, 4, 5, 6, 7, 8, 11, 12, 13, 14], [15]), ([16, 8, 14, 0, 1, 3, 4, 5, 6, 7, 8, 11, 12, 13, 14], [8, 16]), ([2, 0, 1, 2, 3, 4, 5, 6, 7, 8, 9, 10, 11, 12, 13, 14, 15, 16, 17], [2]), ([18, 0, 1, 2, 3, 4, 5, 6, 7, 8, 9, 10, 11, 12, 13, 14, 15, 16, 17], [18]), ([19, 11, 17, 0, 1, 2, 3, 4, 5, 6, 7, 8, 9, 10, 11, 12, 13, 14, 15, 16, 17], [11, 19])])
def entR3.B : List Nat := [0, 0, 0, 0, 8, 24, 0, 64, 248, 0, 512, 2040, 4089, 8185, 16377, 32763, 65531, 131067, 262143, 524287, 1048575]
theorem entR3.tab : rtab .any (opsOf Try.f94 3) = entR3.T := by kernel_rfl
theorem entR3.bits : waitsOk entR3.T.2 entR3.B = true := by kernel_rfl
def entR10.T : Bool × List (List Nat × List Nat) := (true, [([], []), ([], []), ([], []), ([], []), ([3], [3]), ([4], [4]), ([], []), ([6], [6]), ([7, 5], [7]), ([], []), ([9], [9]), ([10, 8], [10]), ([0, 0, 3, 4, 5, 8, 11], [0]), ([12, 0, 3, 4, 5, 8, 11], [12]), ([13, 5, 11, 0, 3, 4, 5, 8, 11], [5, 13]), ([1, 0, 1, 3, 4, 5, 6, 7, 8, 11, 12, 13, 14], [1]), ([15, 0, 1, 3, 4, 5, 6, 7, 8, 11, 12, 13, 14], [15]), ([16, 8, 14, 0, 1, 3, 4, 5, 6, 7, 8, 11, 12, 13, 14], [8, 16]), ([2, 0, 1, 2, 3, 4, 5, 6, 7, 8, 9, 10, 11, 12, 13, 14, 15, 16, 17], [2]), ([18, 0, 1, 2, 3, 4, 5, 6, 7, 8, 9, 10, 11, 12, 13, 14, 15, 16, 17], [18]), ([19, 11, 17, 0, 1, 2, 3, 4, 5, 6, 7, 8, 9, 10, 11, 12, 13, 14, 15, 16, 17], [11, 19])])
def entR10.B : List Nat := [0, 0, 0, 0, 8, 24, 0, 64, 248, 0, 512, 2040, 4089, 8185, 16377, 32763, 65531, 131067, 262143, 524287, 1048575]
theorem entR10.tab : rtab .any (opsOf Try.f94 10) = entR10.T := by kernel_rfl
theorem entR10.bits : waitsOk entR10.T.2 entR10.B = true := by kernel_rfl
set_option maxHeartbeats 16000000 in
theorem sent_is {w0 w : World} {P c p : Nat} {A : Option Addr} {b : List Int} (hC : Kd.C (Kd.int .u8) w0 A b.length b) (hc : b.length ≤ c) (hB : areBytesN b = true) (hb : Below w0.heap.size w0 w) (hP : w0.heap.size ≤ P) (k : SpotAt w P A c b.length p) (hp : p ≤ b.length) :
    Calls Try.prog 94 #[.agg #[.pointer (some ⟨P, 0, none⟩)]] w (RdP w P A c b (EntR w.heap.size) (rent (b.drop p))) := by
  have hPl := k.lt
  obtain ⟨w2, hw2⟩ : ∃ w2, w2 = (w.alloc (.cells #[.pointer (some ⟨P, 0, none⟩)] 140)).alloc (.cells #[.int .i64 0, .int .i64 0, .int .i64 0, .int .i64 0, .int .i64 0, .int .i64 0, .int .i64 0, .int .i64 0, .slice none 0 0, .int .i64 0] 26) := ⟨_, rfl⟩
  have hb2 : Below w.heap.size w w2 := by rw [hw2]; exact ((Below.refl _ _).alloc (Nat.le_refl _) _).alloc (by simp) _
  have hE2 : EnS w w2 P A c b.length p 0 0 0 0 0 0 0 0 (.slice none 0 0) 0 := by
    refine ⟨k.below hb2 hPl, ?_, ?_, grown_of_below hb2 _⟩
    · rw [hw2]; exact (Below.heap_alloc _ _ _ (by simp)).trans (World.alloc_heap_new w _)
    · rw [hw2]
      have := World.alloc_heap_new (w.alloc (.cells #[.pointer (some ⟨P, 0, none⟩)] 140)) (.cells #[.int .i64 0, .int .i64 0, .int .i64 0, .int .i64 0, .int .i64 0, .int .i64 0, .int .i64 0, .int .i64 0, .slice none 0 0, .int .i64 0] 26)
      rwa [World.size_alloc] at this
  have HG0 := Lib.hid (fun (W : World) (hg : w.grownBy W (some P)) => Kd.C_below hC (below_of_grown hb hg hP))
  have HBB := Lib.hid hB
  have HC := Lib.hid hC
  have HB0 := Lib.hid hb
  obtain ⟨X, hX⟩ : ∃ X, rent (b.drop p) = X := ⟨_, rfl⟩
  rw [hX]
  unfold rent most at hX
  have HX0 := Lib.hid hX.symm
  have HE2 := Lib.hid (hE2.drew hPl)
  have HW2 := Lib.hid hw2
  clear hC hB hb k hX hb2 hE2
  go_enter Try.func94, Try.ntmps94
  go_upto_region 1 with (fail)
  rw [← HW2.out]
  clear hw2
  refine start_ (n := 10) (S := fun w' => w'.cell? ⟨w.heap.size, 0, none⟩ = some (.pointer (some ⟨P, 0, none⟩))) (ds := []) #[false, false, false, false, false, false, false, false, false, false] (by kernel_rfl) rfl rfl HE2.out.ptr.c0 (fun hHeld => ?_); refine with_tabW entR1.tab entR1.bits (fun HT_ HW_ => ?_)
  refine pure_ (i := 0) (N := (some 4)) (v := ?_) (a' := ?_) #[true, false, false, false, false, false, false, false, false, false] rfl rfl (any_of HT_.out (by kernel_rfl)) (fun _ _ _ h => h) (Or.inl ⟨by rfl, ?_⟩) ?_ ?_
  rotate_left
  · intro w'
    go_simp
    with_reducible rfl
  rotate_left
  · simp only [Act.put, List.setIfInBounds_toArray, List.set_cons_zero, List.set_cons_succ, i64_w, i32_w]
    rfl
  refine pure_ (i := 3) (N := (some 7)) (v := ?_) (a' := ?_) #[true, false, false, true, false, false, false, false, false, false] rfl rfl (any_of HT_.out (by kernel_rfl)) (fun _ _ _ h => h) (Or.inl ⟨by rfl, ?_⟩) ?_ ?_
  rotate_left
  · intro w'
    go_simp
    with_reducible rfl
  rotate_left
  · simp only [Act.put, List.setIfInBounds_toArray, List.set_cons_zero, List.set_cons_succ, i64_w, i32_w]
    rfl
  refine take_ (i := 1) (N := (some 5)) (v := ?_) (a' := ?_) #[true, true, false, true, false, false, false, false, false, false] rfl rfl (take_ofW HT_.out HW_.out (by kernel_rfl)) (fun _ _ _ h => h) (Or.inl ⟨by rfl, ?_⟩) hHeld ?_ ?_
  rotate_left
  · rintro w' s0
    go_simp
    with_reducible rfl
  rotate_left
  · simp only [Act.put, List.setIfInBounds_toArray, List.set_cons_zero, List.set_cons_succ, i64_w, i32_w]
    rfl
  refine take_ (i := 4) (N := (some 8)) (v := ?_) (a' := ?_) #[true, true, false, true, true, false, false, false, false, false] rfl rfl (take_ofW HT_.out HW_.out (by kernel_rfl)) (fun _ _ _ h => h) (Or.inl ⟨by rfl, ?_⟩) hHeld ?_ ?_
  rotate_left
  · rintro w' s0
    go_simp
    with_reducible rfl
  rotate_left
  · simp only [Act.put, List.setIfInBounds_toArray, List.set_cons_zero, List.set_cons_succ, i64_w, i32_w]
    rfl
  refine one_ (i := 2) (N := (some 6)) #[true, true, true, true, true, false, false, false, false, false] rfl rfl (one_of HT_.out (by kernel_rfl)) (by decide) (fun K hK => ?_)
  have hX := HX0.out
  rcases hres : rnum 2147483647 (b.drop p) with f | ⟨who, r⟩
  · rw [hres, bnd_err] at hX
    refine goesP_ Try.func131 (by kernel_rfl) rfl #[.pointer (some ⟨P, 0, none⟩), .int .i64 2147483647] (by rfl) rfl rfl (by (try simp only [List.map_toArray, List.map_cons, List.map_nil]); first | done | rfl) ?_
    refine (snum_err HE2.out.spot (HG0.out _ HE2.out.grown) hc HBB.out hp 2147483647 (by decide) (by decide) f hres).mono ?_
    rintro e w' ⟨rfl, hg⟩
    exact .inr ⟨_, rfl, And.intro rfl (RdP.err hX (HE2.out.grown.trans hg))⟩
  obtain ⟨q1, hq1, rfl, hql, hn0who, hn1who⟩ := rnum_rest HBB.out hp hres
  rw [hres, bnd_ok] at hX
  have HX1 := Lib.hid hX
  refine goesP_ Try.func131 (by kernel_rfl) rfl #[.pointer (some ⟨P, 0, none⟩), .int .i64 2147483647] (by rfl) rfl rfl (by (try simp only [List.map_toArray, List.map_cons, List.map_nil]); first | done | rfl) ?_
  refine (snum_ok HE2.out.spot (HG0.out _ HE2.out.grown) hc HBB.out hp 2147483647 (by decide) (by decide) who _ hres).mono ?_
  rintro e v3 ⟨rfl, hk, hg⟩
  rw [hql] at hk
  have HE3 := Lib.hid (HE2.out.num hPl hk hg)
  clear hk hg hres hX hql HX0 HE2
  refine .inl ⟨_, rfl, ?_⟩
  refine hK.out _ _ HE3.out.ptr.c0 (fun hHeld => ?_)
  clear hK K
  refine norm_ (a' := ?_) ?_ ?_
  rotate_left
  · show Act.put _ (some 6) _ = _
    simp only [Act.put, List.setIfInBounds_toArray, List.set_cons_zero, List.set_cons_succ, i64_w, i32_w]
    rfl
  refine one_ (i := 5) (N := (some 9)) #[true, true, true, true, true, true, false, false, false, false] rfl rfl (one_of HT_.out (by kernel_rfl)) (by decide) (fun K hK => ?_)
  have hX := HX1.out
  rcases hres : rnum 2147483647 (b.drop q1) with f | ⟨seq, r⟩
  · rw [hres, bnd_err] at hX
    refine goesP_ Try.func131 (by kernel_rfl) rfl #[.pointer (some ⟨P, 0, none⟩), .int .i64 2147483647] (by rfl) rfl rfl (by (try simp only [List.map_toArray, List.map_cons, List.map_nil]); first | done | rfl) ?_
    refine (snum_err HE3.out.spot (HG0.out _ HE3.out.grown) hc HBB.out hq1 2147483647 (by decide) (by decide) f hres).mono ?_
    rintro e w' ⟨rfl, hg⟩
    exact .inr ⟨_, rfl, And.intro rfl (RdP.err hX (HE3.out.grown.trans hg))⟩
  obtain ⟨q2, hq2, rfl, hql, hn0seq, hn1seq⟩ := rnum_rest HBB.out hq1 hres
  rw [hres, bnd_ok] at hX
  have HX2 := Lib.hid hX
  refine goesP_ Try.func131 (by kernel_rfl) rfl #[.pointer (some ⟨P, 0, none⟩), .int .i64 2147483647] (by rfl) rfl rfl (by (try simp only [List.map_toArray, List.map_cons, List.map_nil]); first | done | rfl) ?_
  refine (snum_ok HE3.out.spot (HG0.out _ HE3.out.grown) hc HBB.out hq1 2147483647 (by decide) (by decide) seq _ hres).mono ?_
  rintro e v4 ⟨rfl, hk, hg⟩
  rw [hql] at hk
  have HE4 := Lib.hid (HE3.out.num hPl hk hg)
  clear hk hg hres hX hql HX1 HE3
  refine .inl ⟨_, rfl, ?_⟩
  refine hK.out _ _ HE4.out.ptr.c0 (fun hHeld => ?_)
  clear hK K
  refine norm_ (a' := ?_) ?_ ?_
  rotate_left
  · show Act.put _ (some 9) _ = _
    simp only [Act.put, List.setIfInBounds_toArray, List.set_cons_zero, List.set_cons_succ, i64_w, i32_w]
    rfl
  refine pure_ (i := 6) (N := (some 10)) (v := ?_) (a' := ?_) #[true, true, true, true, true, true, true, false, false, false] rfl rfl (any_of HT_.out (by kernel_rfl)) (fun _ _ _ h => h) (Or.inl ⟨by rfl, ?_⟩) ?_ ?_
  rotate_left
  · intro w'
    go_simp
    with_reducible rfl
  rotate_left
  · simp only [Act.put, List.setIfInBounds_toArray, List.set_cons_zero, List.set_cons_succ, i64_w, i32_w]
    rfl
  refine one_ (i := 7) (N := none) #[true, true, true, true, true, true, true, true, false, false] rfl rfl (one_of HT_.out (by kernel_rfl)) (by decide) (fun K hK => ?_)
  have hcc := HE4.out.c0
  have hff := HE4.out.f 0
  refine skip_ (w1 := (v4.setCell ⟨w.heap.size + 1, 0, none⟩ (.int .i64 who))) (by rfl) rfl ?_ ?_
  · go_simp
    try rfl
  have HE5 : Hid (EnS w (v4.setCell ⟨w.heap.size + 1, 0, none⟩ (.int .i64 who)) P A c b.length q2 who 0 0 0 0 0 0 0 (.slice none 0 0) 0) := Lib.hid (HE4.out.put hPl 0 (.int .i64 who) rfl)
  clear hcc hff HE4
  refine hK.out _ _ HE5.out.ptr.c0 (fun hHeld => ?_)
  clear hK K
  refine pure_ (i := 8) (N := (some 11)) (v := ?_) (a' := ?_) #[true, true, true, true, true, true, true, true, true, false] rfl rfl (any_of HT_.out (by kernel_rfl)) (fun _ _ _ h => h) (Or.inl ⟨by rfl, ?_⟩) ?_ ?_
  rotate_left
  · intro w'
    go_simp
    with_reducible rfl
  rotate_left
  · simp only [Act.put, List.setIfInBounds_toArray, List.set_cons_zero, List.set_cons_succ, i64_w, i32_w]
    rfl
  refine one_ (i := 9) (N := none) #[true, true, true, true, true, true, true, true, true, true] rfl rfl (one_of HT_.out (by kernel_rfl)) (by decide) (fun K hK => ?_)
  have hcc := HE5.out.c1
  have hff := HE5.out.f 1
  refine skip_ (w1 := ((v4.setCell ⟨w.heap.size + 1, 0, none⟩ (.int .i64 who)).setCell ⟨w.heap.size + 1, 1, none⟩ (.int .i64 seq))) (by rfl) rfl ?_ ?_
  · go_simp
    try rfl
  have HE6 : Hid (EnS w ((v4.setCell ⟨w.heap.size + 1, 0, none⟩ (.int .i64 who)).setCell ⟨w.heap.size + 1, 1, none⟩ (.int .i64 seq)) P A c b.length q2 who seq 0 0 0 0 0 0 (.slice none 0 0) 0) := Lib.hid (HE5.out.put hPl 1 (.int .i64 seq) rfl)
  clear hcc hff HE5
  refine hK.out _ _ HE6.out.ptr.c0 (fun hHeld => ?_)
  clear hK K
  refine done_ (done_of HT_.out (by kernel_rfl)) ?_
  go_upto_region 3 with (fail)
  have HE7 := Lib.hid (HE6.out.drew hPl)
  refine start_ (n := 21) (S := fun w' => w'.cell? ⟨w.heap.size, 0, none⟩ = some (.pointer (some ⟨P, 0, none⟩))) (ds := []) #[false, false, false, false, false, false, false, false, false, false, false, false, false, false, false, false, false, false, false, false, false] (by kernel_rfl) rfl rfl HE7.out.ptr.c0 (fun hHeld => ?_); refine with_tabW entR3.tab entR3.bits (fun HT_ HW_ => ?_)
  refine pure_ (i := 0) (N := (some 13)) (v := ?_) (a' := ?_) #[true, false, false, false, false, false, false, false, false, false, false, false, false, false, false, false, false, false, false, false, false] rfl rfl (any_of HT_.out (by kernel_rfl)) (fun _ _ _ h => h) (Or.inl ⟨by rfl, ?_⟩) ?_ ?_
  rotate_left
  · intro w'
    go_simp
    with_reducible rfl
  rotate_left
  · simp only [Act.put, List.setIfInBounds_toArray, List.set_cons_zero, List.set_cons_succ, i64_w, i32_w]
    rfl
  refine pure_ (i := 1) (N := (some 14)) (v := ?_) (a' := ?_) #[true, true, false, false, false, false, false, false, false, false, false, false, false, false, false, false, false, false, false, false, false] rfl rfl (any_of HT_.out (by kernel_rfl)) (fun _ _ _ h => h) (Or.inl ⟨by rfl, ?_⟩) ?_ ?_
  rotate_left
  · intro w'
    go_simp
    with_reducible rfl
  rotate_left
  · simp only [Act.put, List.setIfInBounds_toArray, List.set_cons_zero, List.set_cons_succ, i64_w, i32_w]
    rfl
  refine pure_ (i := 2) (N := (some 15)) (v := ?_) (a' := ?_) #[true, true, true, false, false, false, false, false, false, false, false, false, false, false, false, false, false, false, false, false, false] rfl rfl (any_of HT_.out (by kernel_rfl)) (fun _ _ _ h => h) (Or.inl ⟨by rfl, ?_⟩) ?_ ?_
  rotate_left
  · intro w'
    go_simp
    with_reducible rfl
  rotate_left
  · simp only [Act.put, List.setIfInBounds_toArray, List.set_cons_zero, List.set_cons_succ, i64_w, i32_w]
    rfl
  refine pure_ (i := 3) (N := (some 16)) (v := ?_) (a' := ?_) #[true, true, true, true, false, false, false, false, false, false, false, false, false, false, false, false, false, false, false, false, false] rfl rfl (any_of HT_.out (by kernel_rfl)) (fun _ _ _ h => h) (Or.inl ⟨by rfl, ?_⟩) ?_ ?_
  rotate_left
  · intro w'
    go_simp
    with_reducible rfl
  rotate_left
  · simp only [Act.put, List.setIfInBounds_toArray, List.set_cons_zero, List.set_cons_succ, i64_w, i32_w]
    rfl
  refine pure_ (i := 6) (N := (some 19)) (v := ?_) (a' := ?_) #[true, true, true, true, false, false, true, false, false, false, false, false, false, false, false, false, false, false, false, false, false] rfl rfl (any_of HT_.out (by kernel_rfl)) (fun _ _ _ h => h) (Or.inl ⟨by rfl, ?_⟩) ?_ ?_
  rotate_left
  · intro w'
    go_simp
    with_reducible rfl
  rotate_left
  · simp only [Act.put, List.setIfInBounds_toArray, List.set_cons_zero, List.set_cons_succ, i64_w, i32_w]
    rfl
  refine pure_ (i := 9) (N := (some 22)) (v := ?_) (a' := ?_) #[true, true, true, true, false, false, true, false, false, true, false, false, false, false, false, false, false, false, false, false, false] rfl rfl (any_of HT_.out (by kernel_rfl)) (fun _ _ _ h => h) (Or.inl ⟨by rfl, ?_⟩) ?_ ?_
  rotate_left
  · intro w'
    go_simp
    with_reducible rfl
  rotate_left
  · simp only [Act.put, List.setIfInBounds_toArray, List.set_cons_zero, List.set_cons_succ, i64_w, i32_w]
    rfl
  refine take_ (i := 4) (N := (some 17)) (v := ?_) (a' := ?_) #[true, true, true, true, true, false, true, false, false, true, false, false, false, false, false, false, false, false, false, false, false] rfl rfl (take_ofW HT_.out HW_.out (by kernel_rfl)) (fun _ _ _ h => h) (Or.inl ⟨by rfl, ?_⟩) hHeld ?_ ?_
  rotate_left
  · rintro w' s0
    go_simp
    with_reducible rfl
  rotate_left
  · simp only [Act.put, List.setIfInBounds_toArray, List.set_cons_zero, List.set_cons_succ, i64_w, i32_w]
    rfl
  refine take_ (i := 7) (N := (some 20)) (v := ?_) (a' := ?_) #[true, true, true, true, true, false, true, true, false, true, false, false, false, false, false, false, false, false, false, false, false] rfl rfl (take_ofW HT_.out HW_.out (by kernel_rfl)) (fun _ _ _ h => h) (Or.inl ⟨by rfl, ?_⟩) hHeld ?_ ?_
  rotate_left
  · rintro w' s0
    go_simp
    with_reducible rfl
  rotate_left
  · simp only [Act.put, List.setIfInBounds_toArray, List.set_cons_zero, List.set_cons_succ, i64_w, i32_w]
    rfl
  refine take_ (i := 10) (N := (some 23)) (v := ?_) (a' := ?_) #[true, true, true, true, true, false, true, true, false, true, true, false, false, false, false, false, false, false, false, false, false] rfl rfl (take_ofW HT_.out HW_.out (by kernel_rfl)) (fun _ _ _ h => h) (Or.inl ⟨by rfl, ?_⟩) hHeld ?_ ?_
  rotate_left
  · rintro w' s0
    go_simp
    with_reducible rfl
  rotate_left
  · simp only [Act.put, List.setIfInBounds_toArray, List.set_cons_zero, List.set_cons_succ, i64_w, i32_w]
    rfl
  refine one_ (i := 5) (N := (some 18)) #[true, true, true, true, true, true, true, true, false, true, true, false, false, false, false, false, false, false, false, false, false] rfl rfl (one_of HT_.out (by kernel_rfl)) (by decide) (fun K hK => ?_)
  have hX := HX2.out
  rcases hres : rnum 3 (b.drop q2) with f | ⟨kk, r⟩
  · rw [hres, bnd_err] at hX
    refine goesP_ Try.func131 (by kernel_rfl) rfl #[.pointer (some ⟨P, 0, none⟩), .int .i64 3] (by rfl) rfl rfl (by (try simp only [List.map_toArray, List.map_cons, List.map_nil]); first | done | rfl) ?_
    refine (snum_err HE7.out.spot (HG0.out _ HE7.out.grown) hc HBB.out hq2 3 (by decide) (by decide) f hres).mono ?_
    rintro e w' ⟨rfl, hg⟩
    exact .inr ⟨_, rfl, And.intro rfl (RdP.err hX (HE7.out.grown.trans hg))⟩
  obtain ⟨q3, hq3, rfl, hql, hn0kk, hn1kk⟩ := rnum_rest HBB.out hq2 hres
  rw [hres, bnd_ok] at hX
  have HX3 := Lib.hid hX
  refine goesP_ Try.func131 (by kernel_rfl) rfl #[.pointer (some ⟨P, 0, none⟩), .int .i64 3] (by rfl) rfl rfl (by (try simp only [List.map_toArray, List.map_cons, List.map_nil]); first | done | rfl) ?_
  refine (snum_ok HE7.out.spot (HG0.out _ HE7.out.grown) hc HBB.out hq2 3 (by decide) (by decide) kk _ hres).mono ?_
  rintro e v8 ⟨rfl, hk, hg⟩
  rw [hql] at hk
  have HE8 := Lib.hid (HE7.out.num hPl hk hg)
  clear hk hg hres hX hql HX2 HE7
  refine .inl ⟨_, rfl, ?_⟩
  refine hK.out _ _ HE8.out.ptr.c0 (fun hHeld => ?_)
  clear hK K
  refine norm_ (a' := ?_) ?_ ?_
  rotate_left
  · show Act.put _ (some 18) _ = _
    simp only [Act.put, List.setIfInBounds_toArray, List.set_cons_zero, List.set_cons_succ, i64_w, i32_w]
    rfl
  refine one_ (i := 8) (N := (some 21)) #[true, true, true, true, true, true, true, true, true, true, true, false, false, false, false, false, false, false, false, false, false] rfl rfl (one_of HT_.out (by kernel_rfl)) (by decide) (fun K hK => ?_)
  have hX := HX3.out
  rcases hres : rnum 2147483647 (b.drop q3) with f | ⟨fm, r⟩
  · rw [hres, bnd_err] at hX
    refine goesP_ Try.func131 (by kernel_rfl) rfl #[.pointer (some ⟨P, 0, none⟩), .int .i64 2147483647] (by rfl) rfl rfl (by (try simp only [List.map_toArray, List.map_cons, List.map_nil]); first | done | rfl) ?_
    refine (snum_err HE8.out.spot (HG0.out _ HE8.out.grown) hc HBB.out hq3 2147483647 (by decide) (by decide) f hres).mono ?_
    rintro e w' ⟨rfl, hg⟩
    exact .inr ⟨_, rfl, And.intro rfl (RdP.err hX (HE8.out.grown.trans hg))⟩
  obtain ⟨q4, hq4, rfl, hql, hn0fm, hn1fm⟩ := rnum_rest HBB.out hq3 hres
  rw [hres, bnd_ok] at hX
  have HX4 := Lib.hid hX
  refine goesP_ Try.func131 (by kernel_rfl) rfl #[.pointer (some ⟨P, 0, none⟩), .int .i64 2147483647] (by rfl) rfl rfl (by (try simp only [List.map_toArray, List.map_cons, List.map_nil]); first | done | rfl) ?_
  refine (snum_ok HE8.out.spot (HG0.out _ HE8.out.grown) hc HBB.out hq3 2147483647 (by decide) (by decide) fm _ hres).mono ?_
  rintro e v9 ⟨rfl, hk, hg⟩
  rw [hql] at hk
  have HE9 := Lib.hid (HE8.out.num hPl hk hg)
  clear hk hg hres hX hql HX3 HE8
  refine .inl ⟨_, rfl, ?_⟩
  refine hK.out _ _ HE9.out.ptr.c0 (fun hHeld => ?_)
  clear hK K
  refine norm_ (a' := ?_) ?_ ?_
  rotate_left
  · show Act.put _ (some 21) _ = _
    simp only [Act.put, List.setIfInBounds_toArray, List.set_cons_zero, List.set_cons_succ, i64_w, i32_w]
    rfl
  refine one_ (i := 11) (N := (some 24)) #[true, true, true, true, true, true, true, true, true, true, true, true, false, false, false, false, false, false, false, false, false] rfl rfl (one_of HT_.out (by kernel_rfl)) (by decide) (fun K hK => ?_)
  have hX := HX4.out
  rcases hres : rnum 2147483647 (b.drop q4) with f | ⟨tt, r⟩
  · rw [hres, bnd_err] at hX
    refine goesP_ Try.func131 (by kernel_rfl) rfl #[.pointer (some ⟨P, 0, none⟩), .int .i64 2147483647] (by rfl) rfl rfl (by (try simp only [List.map_toArray, List.map_cons, List.map_nil]); first | done | rfl) ?_
    refine (snum_err HE9.out.spot (HG0.out _ HE9.out.grown) hc HBB.out hq4 2147483647 (by decide) (by decide) f hres).mono ?_
    rintro e w' ⟨rfl, hg⟩
    exact .inr ⟨_, rfl, And.intro rfl (RdP.err hX (HE9.out.grown.trans hg))⟩
  obtain ⟨q5, hq5, rfl, hql, hn0tt, hn1tt⟩ := rnum_rest HBB.out hq4 hres
  rw [hres, bnd_ok] at hX
  have HX5 := Lib.hid hX
  refine goesP_ Try.func131 (by kernel_rfl) rfl #[.pointer (some ⟨P, 0, none⟩), .int .i64 2147483647] (by rfl) rfl rfl (by (try simp only [List.map_toArray, List.map_cons, List.map_nil]); first | done | rfl) ?_
  refine (snum_ok HE9.out.spot (HG0.out _ HE9.out.grown) hc HBB.out hq4 2147483647 (by decide) (by decide) tt _ hres).mono ?_
  rintro e v10 ⟨rfl, hk, hg⟩
  rw [hql] at hk
  have HE10 := Lib.hid (HE9.out.num hPl hk hg)
  clear hk hg hres hX hql HX4 HE9
  refine .inl ⟨_, rfl, ?_⟩
  refine hK.out _ _ HE10.out.ptr.c0 (fun hHeld => ?_)
  clear hK K
  refine norm_ (a' := ?_) ?_ ?_
  rotate_left
  · show Act.put _ (some 24) _ = _
    simp only [Act.put, List.setIfInBounds_toArray, List.set_cons_zero, List.set_cons_succ, i64_w, i32_w]
    rfl
  refine pure_ (i := 12) (N := (some 25)) (v := ?_) (a' := ?_) #[true, true, true, true, true, true, true, true, true, true, true, true, true, false, false, false, false, false, false, false, false] rfl rfl (any_of HT_.out (by kernel_rfl)) (fun _ _ _ h => h) (Or.inl ⟨by rfl, ?_⟩) ?_ ?_
  rotate_left
  · intro w'
    go_simp
    with_reducible rfl
  rotate_left
  · simp only [Act.put, List.setIfInBounds_toArray, List.set_cons_zero, List.set_cons_succ, i64_w, i32_w]
    rfl
  refine pure_ (i := 13) (N := (some 26)) (v := ?_) (a' := ?_) #[true, true, true, true, true, true, true, true, true, true, true, true, true, true, false, false, false, false, false, false, false] rfl rfl (any_of HT_.out (by kernel_rfl)) (fun _ _ _ h => h) (Or.inl ⟨by rfl, ?_⟩) ?_ ?_
  rotate_left
  · intro w'
    go_simp
    with_reducible rfl
  rotate_left
  · simp only [Act.put, List.setIfInBounds_toArray, List.set_cons_zero, List.set_cons_succ, i64_w, i32_w]
    rfl
  refine one_ (i := 14) (N := none) #[true, true, true, true, true, true, true, true, true, true, true, true, true, true, true, false, false, false, false, false, false] rfl rfl (one_of HT_.out (by kernel_rfl)) (by decide) (fun K hK => ?_)
  have hcc := HE10.out.c2
  have hff := HE10.out.f 2
  refine skip_ (w1 := (v10.setCell ⟨w.heap.size + 1, 2, none⟩ (.int .i64 kk))) (by rfl) rfl ?_ ?_
  · go_simp
    try rfl
  have HE11 : Hid (EnS w (v10.setCell ⟨w.heap.size + 1, 2, none⟩ (.int .i64 kk)) P A c b.length q5 who seq kk 0 0 0 0 0 (.slice none 0 0) 0) := Lib.hid (HE10.out.put hPl 2 (.int .i64 kk) rfl)
  clear hcc hff HE10
  refine hK.out _ _ HE11.out.ptr.c0 (fun hHeld => ?_)
  clear hK K
  refine pure_ (i := 15) (N := (some 27)) (v := ?_) (a' := ?_) #[true, true, true, true, true, true, true, true, true, true, true, true, true, true, true, true, false, false, false, false, false] rfl rfl (any_of HT_.out (by kernel_rfl)) (fun _ _ _ h => h) (Or.inl ⟨by rfl, ?_⟩) ?_ ?_
  rotate_left
  · intro w'
    go_simp
    with_reducible rfl
  rotate_left
  · simp only [Act.put, List.setIfInBounds_toArray, List.set_cons_zero, List.set_cons_succ, i64_w, i32_w]
    rfl
  refine pure_ (i := 16) (N := (some 28)) (v := ?_) (a' := ?_) #[true, true, true, true, true, true, true, true, true, true, true, true, true, true, true, true, true, false, false, false, false] rfl rfl (any_of HT_.out (by kernel_rfl)) (fun _ _ _ h => h) (Or.inl ⟨by rfl, ?_⟩) ?_ ?_
  rotate_left
  · intro w'
    go_simp
    with_reducible rfl
  rotate_left
  · simp only [Act.put, List.setIfInBounds_toArray, List.set_cons_zero, List.set_cons_succ, i64_w, i32_w]
    rfl
  refine one_ (i := 17) (N := none) #[true, true, true, true, true, true, true, true, true, true, true, true, true, true, true, true, true, true, false, false, false] rfl rfl (one_of HT_.out (by kernel_rfl)) (by decide) (fun K hK => ?_)
  have hcc := HE11.out.c3
  have hff := HE11.out.f 3
  refine skip_ (w1 := ((v10.setCell ⟨w.heap.size + 1, 2, none⟩ (.int .i64 kk)).setCell ⟨w.heap.size + 1, 3, none⟩ (.int .i64 fm))) (by rfl) rfl ?_ ?_
  · go_simp
    try rfl
  have HE12 : Hid (EnS w ((v10.setCell ⟨w.heap.size + 1, 2, none⟩ (.int .i64 kk)).setCell ⟨w.heap.size + 1, 3, none⟩ (.int .i64 fm)) P A c b.length q5 who seq kk fm 0 0 0 0 (.slice none 0 0) 0) := Lib.hid (HE11.out.put hPl 3 (.int .i64 fm) rfl)
  clear hcc hff HE11
  refine hK.out _ _ HE12.out.ptr.c0 (fun hHeld => ?_)
  clear hK K
  refine pure_ (i := 18) (N := (some 29)) (v := ?_) (a' := ?_) #[true, true, true, true, true, true, true, true, true, true, true, true, true, true, true, true, true, true, true, false, false] rfl rfl (any_of HT_.out (by kernel_rfl)) (fun _ _ _ h => h) (Or.inl ⟨by rfl, ?_⟩) ?_ ?_
  rotate_left
  · intro w'
    go_simp
    with_reducible rfl
  rotate_left
  · simp only [Act.put, List.setIfInBounds_toArray, List.set_cons_zero, List.set_cons_succ, i64_w, i32_w]
    rfl
  refine pure_ (i := 19) (N := (some 30)) (v := ?_) (a' := ?_) #[true, true, true, true, true, true, true, true, true, true, true, true, true, true, true, true, true, true, true, true, false] rfl rfl (any_of HT_.out (by kernel_rfl)) (fun _ _ _ h => h) (Or.inl ⟨by rfl, ?_⟩) ?_ ?_
  rotate_left
  · intro w'
    go_simp
    with_reducible rfl
  rotate_left
  · simp only [Act.put, List.setIfInBounds_toArray, List.set_cons_zero, List.set_cons_succ, i64_w, i32_w]
    rfl
  refine one_ (i := 20) (N := none) #[true, true, true, true, true, true, true, true, true, true, true, true, true, true, true, true, true, true, true, true, true] rfl rfl (one_of HT_.out (by kernel_rfl)) (by decide) (fun K hK => ?_)
  have hcc := HE12.out.c4
  have hff := HE12.out.f 4
  refine skip_ (w1 := (((v10.setCell ⟨w.heap.size + 1, 2, none⟩ (.int .i64 kk)).setCell ⟨w.heap.size + 1, 3, none⟩ (.int .i64 fm)).setCell ⟨w.heap.size + 1, 4, none⟩ (.int .i64 tt))) (by rfl) rfl ?_ ?_
  · go_simp
    try rfl
  have HE13 : Hid (EnS w (((v10.setCell ⟨w.heap.size + 1, 2, none⟩ (.int .i64 kk)).setCell ⟨w.heap.size + 1, 3, none⟩ (.int .i64 fm)).setCell ⟨w.heap.size + 1, 4, none⟩ (.int .i64 tt)) P A c b.length q5 who seq kk fm tt 0 0 0 (.slice none 0 0) 0) := Lib.hid (HE12.out.put hPl 4 (.int .i64 tt) rfl)
  clear hcc hff HE12
  refine hK.out _ _ HE13.out.ptr.c0 (fun hHeld => ?_)
  clear hK K
  refine done_ (done_of HT_.out (by kernel_rfl)) ?_
  have hkk : kk = 2 ∨ kk = 3 ∨ kk = 1 ∨ kk = 0 := by omega
  rcases hkk with rfl | rfl | rfl | rfl
  · have hX := HX5.out
    rw [if_pos (by decide)] at hX
    have c2 := HE13.out.c2
    have r0 := HE13.out.ptr.c0
    rcases hres : rnum 2147483647 (b.drop q5) with f | ⟨mk, r⟩
    · rw [hres, bnd_err] at hX
      have HN := Lib.hid (snum_err HE13.out.spot (HG0.out _ HE13.out.grown) hc HBB.out hq5 2147483647 (by decide) (by decide) f hres)
      have HX := Lib.hid hX
      clear hX hres HX5
      go_wp2_with (go_at_call 131; refine HN.out.mono ?_; rintro e w7 ⟨rfl, hg⟩; have HG7 := Lib.hid (HE13.out.grown.trans hg); clear hg)
      exact ⟨rfl, RdP.err HX.out HG7.out⟩
    · obtain ⟨q9, hq9, rfl, hql, hm0, hm1⟩ := rnum_rest HBB.out hq5 hres
      have hN := snum_ok HE13.out.spot (HG0.out _ HE13.out.grown) hc HBB.out hq5 2147483647 (by decide) (by decide) mk _ hres
      rw [hql] at hN
      rw [hres, bnd_ok] at hX
      have HN := Lib.hid hN
      have HX := Lib.hid hX
      clear hX hres HX5 hN
      go_upto_region 8 with (go_at_call 131; refine HN.out.mono ?_; rintro e w7 ⟨rfl, hk, hg⟩; have HE20 := Lib.hid (HE13.out.num hPl hk hg); have f9 := HE20.out.f 9; have c9 := HE20.out.c9; have HE21 := Lib.hid (HE20.out.put hPl 9 (.int .i64 mk) (b0 := who) (b1 := seq) (b2 := 2) (b3 := fm) (b4 := tt) (b5 := 0) (b6 := 0) (b7 := 0) (b9 := mk) (v' := .slice none 0 0) rfl); clear hk hg)
      have e0 := HE21.out.c0
      have e1 := HE21.out.c1
      have e2 := HE21.out.c2
      have e3 := HE21.out.c3
      have e4 := HE21.out.c4
      have e5 := HE21.out.c5
      have e6 := HE21.out.c6
      have e7 := HE21.out.c7
      have e8 := HE21.out.c8
      have e9 := HE21.out.c9
      obtain ⟨w8, hw8⟩ : ∃ w8, w7.setCell ⟨w.heap.size + 1, 9, none⟩ (.int .i64 mk) = w8 := ⟨_, rfl⟩
      rw [hw8] at e0 e1 e2 e3 e4 e5 e6 e7 e8 e9 HE21 ⊢
      have ff := HE21.out.f
      clear hw8 HE20 HN
      go_wp2
      have g0 := HE21.out.put hPl 0 (.int .i64 who) (b0 := who) (b1 := seq) (b2 := 2) (b3 := fm) (b4 := tt) (b5 := 0) (b6 := 0) (b7 := 0) (b9 := mk) (v' := (.slice none 0 0)) rfl
      have g1 := g0.put hPl 1 (.int .i64 seq) (b0 := who) (b1 := seq) (b2 := 2) (b3 := fm) (b4 := tt) (b5 := 0) (b6 := 0) (b7 := 0) (b9 := mk) (v' := (.slice none 0 0)) rfl
      clear g0
      have g2 := g1.put hPl 2 (.int .i64 2) (b0 := who) (b1 := seq) (b2 := 2) (b3 := fm) (b4 := tt) (b5 := 0) (b6 := 0) (b7 := 0) (b9 := mk) (v' := (.slice none 0 0)) rfl
      clear g1
      have g3 := g2.put hPl 3 (.int .i64 fm) (b0 := who) (b1 := seq) (b2 := 2) (b3 := fm) (b4 := tt) (b5 := 0) (b6 := 0) (b7 := 0) (b9 := mk) (v' := (.slice none 0 0)) rfl
      clear g2
      have g4 := g3.put hPl 4 (.int .i64 tt) (b0 := who) (b1 := seq) (b2 := 2) (b3 := fm) (b4 := tt) (b5 := 0) (b6 := 0) (b7 := 0) (b9 := mk) (v' := (.slice none 0 0)) rfl
      clear g3
      have g5 := g4.put hPl 5 (.int .i64 0) (b0 := who) (b1 := seq) (b2 := 2) (b3 := fm) (b4 := tt) (b5 := 0) (b6 := 0) (b7 := 0) (b9 := mk) (v' := (.slice none 0 0)) rfl
      clear g4
      have g6 := g5.put hPl 6 (.int .i64 0) (b0 := who) (b1 := seq) (b2 := 2) (b3 := fm) (b4 := tt) (b5 := 0) (b6 := 0) (b7 := 0) (b9 := mk) (v' := (.slice none 0 0)) rfl
      clear g5
      have g7 := g6.put hPl 7 (.int .i64 0) (b0 := who) (b1 := seq) (b2 := 2) (b3 := fm) (b4 := tt) (b5 := 0) (b6 := 0) (b7 := 0) (b9 := mk) (v' := (.slice none 0 0)) rfl
      clear g6
      have g8 := g7.put hPl 8 (.slice none 0 0) (b0 := who) (b1 := seq) (b2 := 2) (b3 := fm) (b4 := tt) (b5 := 0) (b6 := 0) (b7 := 0) (b9 := mk) (v' := (.slice none 0 0)) rfl
      clear g7
      have g9 := g8.put hPl 9 (.int .i64 mk) (b0 := who) (b1 := seq) (b2 := 2) (b3 := fm) (b4 := tt) (b5 := 0) (b6 := 0) (b7 := 0) (b9 := mk) (v' := (.slice none 0 0)) rfl
      clear g8
      have z0 := g9.c0
      have z1 := g9.c1
      have z2 := g9.c2
      have z3 := g9.c3
      have z4 := g9.c4
      have z5 := g9.c5
      have z6 := g9.c6
      have z7 := g9.c7
      have z8 := g9.c8
      have z9 := g9.c9
      refine bodyPost_ret (v := .agg #[.int .i64 who, .int .i64 seq, .int .i64 2, .int .i64 fm, .int .i64 tt, .int .i64 0, .int .i64 0, .int .i64 0, .slice none 0 0, .int .i64 mk]) (by simp [results, Try.results94, go_sem, z0, z1, z2, z3, z4, z5, z6, z7, z8, z9]) rfl ?_
      exact RdP.ok HX.out g9.grown ⟨_, rfl, Kd.R_nil _ _ _ _ _⟩ g9.spot (by rw [List.length_drop]; omega)
  · have hX := HX5.out
    rw [if_pos (by decide)] at hX
    have c2 := HE13.out.c2
    have r0 := HE13.out.ptr.c0
    rcases hres : rnum 2147483647 (b.drop q5) with f | ⟨mk, r⟩
    · rw [hres, bnd_err] at hX
      have HN := Lib.hid (snum_err HE13.out.spot (HG0.out _ HE13.out.grown) hc HBB.out hq5 2147483647 (by decide) (by decide) f hres)
      have HX := Lib.hid hX
      clear hX hres HX5
      go_wp2_with (go_at_call 131; refine HN.out.mono ?_; rintro e w7 ⟨rfl, hg⟩; have HG7 := Lib.hid (HE13.out.grown.trans hg); clear hg)
      exact ⟨rfl, RdP.err HX.out HG7.out⟩
    · obtain ⟨q9, hq9, rfl, hql, hm0, hm1⟩ := rnum_rest HBB.out hq5 hres
      have hN := snum_ok HE13.out.spot (HG0.out _ HE13.out.grown) hc HBB.out hq5 2147483647 (by decide) (by decide) mk _ hres
      rw [hql] at hN
      rw [hres, bnd_ok] at hX
      have HN := Lib.hid hN
      have HX := Lib.hid hX
      clear hX hres HX5 hN
      go_upto_region 8 with (go_at_call 131; refine HN.out.mono ?_; rintro e w7 ⟨rfl, hk, hg⟩; have HE20 := Lib.hid (HE13.out.num hPl hk hg); have f9 := HE20.out.f 9; have c9 := HE20.out.c9; have HE21 := Lib.hid (HE20.out.put hPl 9 (.int .i64 mk) (b0 := who) (b1 := seq) (b2 := 3) (b3 := fm) (b4 := tt) (b5 := 0) (b6 := 0) (b7 := 0) (b9 := mk) (v' := .slice none 0 0) rfl); clear hk hg)
      have e0 := HE21.out.c0
      have e1 := HE21.out.c1
      have e2 := HE21.out.c2
      have e3 := HE21.out.c3
      have e4 := HE21.out.c4
      have e5 := HE21.out.c5
      have e6 := HE21.out.c6
      have e7 := HE21.out.c7
      have e8 := HE21.out.c8
      have e9 := HE21.out.c9
      obtain ⟨w8, hw8⟩ : ∃ w8, w7.setCell ⟨w.heap.size + 1, 9, none⟩ (.int .i64 mk) = w8 := ⟨_, rfl⟩
      rw [hw8] at e0 e1 e2 e3 e4 e5 e6 e7 e8 e9 HE21 ⊢
      have ff := HE21.out.f
      clear hw8 HE20 HN
      go_wp2
      have g0 := HE21.out.put hPl 0 (.int .i64 who) (b0 := who) (b1 := seq) (b2 := 3) (b3 := fm) (b4 := tt) (b5 := 0) (b6 := 0) (b7 := 0) (b9 := mk) (v' := (.slice none 0 0)) rfl
      have g1 := g0.put hPl 1 (.int .i64 seq) (b0 := who) (b1 := seq) (b2 := 3) (b3 := fm) (b4 := tt) (b5 := 0) (b6 := 0) (b7 := 0) (b9 := mk) (v' := (.slice none 0 0)) rfl
      clear g0
      have g2 := g1.put hPl 2 (.int .i64 3) (b0 := who) (b1 := seq) (b2 := 3) (b3 := fm) (b4 := tt) (b5 := 0) (b6 := 0) (b7 := 0) (b9 := mk) (v' := (.slice none 0 0)) rfl
      clear g1
      have g3 := g2.put hPl 3 (.int .i64 fm) (b0 := who) (b1 := seq) (b2 := 3) (b3 := fm) (b4 := tt) (b5 := 0) (b6 := 0) (b7 := 0) (b9 := mk) (v' := (.slice none 0 0)) rfl
      clear g2
      have g4 := g3.put hPl 4 (.int .i64 tt) (b0 := who) (b1 := seq) (b2 := 3) (b3 := fm) (b4 := tt) (b5 := 0) (b6 := 0) (b7 := 0) (b9 := mk) (v' := (.slice none 0 0)) rfl
      clear g3
      have g5 := g4.put hPl 5 (.int .i64 0) (b0 := who) (b1 := seq) (b2 := 3) (b3 := fm) (b4 := tt) (b5 := 0) (b6 := 0) (b7 := 0) (b9 := mk) (v' := (.slice none 0 0)) rfl
      clear g4
      have g6 := g5.put hPl 6 (.int .i64 0) (b0 := who) (b1 := seq) (b2 := 3) (b3 := fm) (b4 := tt) (b5 := 0) (b6 := 0) (b7 := 0) (b9 := mk) (v' := (.slice none 0 0)) rfl
      clear g5
      have g7 := g6.put hPl 7 (.int .i64 0) (b0 := who) (b1 := seq) (b2 := 3) (b3 := fm) (b4 := tt) (b5 := 0) (b6 := 0) (b7 := 0) (b9 := mk) (v' := (.slice none 0 0)) rfl
      clear g6
      have g8 := g7.put hPl 8 (.slice none 0 0) (b0 := who) (b1 := seq) (b2 := 3) (b3 := fm) (b4 := tt) (b5 := 0) (b6 := 0) (b7 := 0) (b9 := mk) (v' := (.slice none 0 0)) rfl
      clear g7
      have g9 := g8.put hPl 9 (.int .i64 mk) (b0 := who) (b1 := seq) (b2 := 3) (b3 := fm) (b4 := tt) (b5 := 0) (b6 := 0) (b7 := 0) (b9 := mk) (v' := (.slice none 0 0)) rfl
      clear g8
      have z0 := g9.c0
      have z1 := g9.c1
      have z2 := g9.c2
      have z3 := g9.c3
      have z4 := g9.c4
      have z5 := g9.c5
      have z6 := g9.c6
      have z7 := g9.c7
      have z8 := g9.c8
      have z9 := g9.c9
      refine bodyPost_ret (v := .agg #[.int .i64 who, .int .i64 seq, .int .i64 3, .int .i64 fm, .int .i64 tt, .int .i64 0, .int .i64 0, .int .i64 0, .slice none 0 0, .int .i64 mk]) (by simp [results, Try.results94, go_sem, z0, z1, z2, z3, z4, z5, z6, z7, z8, z9]) rfl ?_
      exact RdP.ok HX.out g9.grown ⟨_, rfl, Kd.R_nil _ _ _ _ _⟩ g9.spot (by rw [List.length_drop]; omega)
  · have hX := HX5.out
    rw [if_neg (by decide), if_pos rfl] at hX
    have HX6 := Lib.hid hX
    clear hX HX5
    have c2 := HE13.out.c2
    go_upto_region 10 with (fail)
    clear c2
    have HE14 := Lib.hid (HE13.out.drew hPl)
    refine start_ (n := 21) (S := fun w' => w'.cell? ⟨w.heap.size, 0, none⟩ = some (.pointer (some ⟨P, 0, none⟩))) (ds := []) #[false, false, false, false, false, false, false, false, false, false, false, false, false, false, false, false, false, false, false, false, false] (by kernel_rfl) rfl rfl HE14.out.ptr.c0 (fun hHeld => ?_); refine with_tabW entR10.tab entR10.bits (fun HT_ HW_ => ?_)
    refine pure_ (i := 0) (N := (some 47)) (v := ?_) (a' := ?_) #[true, false, false, false, false, false, false, false, false, false, false, false, false, false, false, false, false, false, false, false, false] rfl rfl (any_of HT_.out (by kernel_rfl)) (fun _ _ _ h => h) (Or.inl ⟨by rfl, ?_⟩) ?_ ?_
    rotate_left
    · intro w'
      go_simp
      with_reducible rfl
    rotate_left
    · simp only [Act.put, List.setIfInBounds_toArray, List.set_cons_zero, List.set_cons_succ, i64_w, i32_w]
      rfl
    refine pure_ (i := 1) (N := (some 48)) (v := ?_) (a' := ?_) #[true, true, false, false, false, false, false, false, false, false, false, false, false, false, false, false, false, false, false, false, false] rfl rfl (any_of HT_.out (by kernel_rfl)) (fun _ _ _ h => h) (Or.inl ⟨by rfl, ?_⟩) ?_ ?_
    rotate_left
    · intro w'
      go_simp
      with_reducible rfl
    rotate_left
    · simp only [Act.put, List.setIfInBounds_toArray, List.set_cons_zero, List.set_cons_succ, i64_w, i32_w]
      rfl
    refine pure_ (i := 2) (N := (some 49)) (v := ?_) (a' := ?_) #[true, true, true, false, false, false, false, false, false, false, false, false, false, false, false, false, false, false, false, false, false] rfl rfl (any_of HT_.out (by kernel_rfl)) (fun _ _ _ h => h) (Or.inl ⟨by rfl, ?_⟩) ?_ ?_
    rotate_left
    · intro w'
      go_simp
      with_reducible rfl
    rotate_left
    · simp only [Act.put, List.setIfInBounds_toArray, List.set_cons_zero, List.set_cons_succ, i64_w, i32_w]
      rfl
    refine pure_ (i := 3) (N := (some 50)) (v := ?_) (a' := ?_) #[true, true, true, true, false, false, false, false, false, false, false, false, false, false, false, false, false, false, false, false, false] rfl rfl (any_of HT_.out (by kernel_rfl)) (fun _ _ _ h => h) (Or.inl ⟨by rfl, ?_⟩) ?_ ?_
    rotate_left
    · intro w'
      go_simp
      with_reducible rfl
    rotate_left
    · simp only [Act.put, List.setIfInBounds_toArray, List.set_cons_zero, List.set_cons_succ, i64_w, i32_w]
      rfl
    refine pure_ (i := 6) (N := (some 53)) (v := ?_) (a' := ?_) #[true, true, true, true, false, false, true, false, false, false, false, false, false, false, false, false, false, false, false, false, false] rfl rfl (any_of HT_.out (by kernel_rfl)) (fun _ _ _ h => h) (Or.inl ⟨by rfl, ?_⟩) ?_ ?_
    rotate_left
    · intro w'
      go_simp
      with_reducible rfl
    rotate_left
    · simp only [Act.put, List.setIfInBounds_toArray, List.set_cons_zero, List.set_cons_succ, i64_w, i32_w]
      rfl
    refine pure_ (i := 9) (N := (some 56)) (v := ?_) (a' := ?_) #[true, true, true, true, false, false, true, false, false, true, false, false, false, false, false, false, false, false, false, false, false] rfl rfl (any_of HT_.out (by kernel_rfl)) (fun _ _ _ h => h) (Or.inl ⟨by rfl, ?_⟩) ?_ ?_
    rotate_left
    · intro w'
      go_simp
      with_reducible rfl
    rotate_left
    · simp only [Act.put, List.setIfInBounds_toArray, List.set_cons_zero, List.set_cons_succ, i64_w, i32_w]
      rfl
    refine take_ (i := 4) (N := (some 51)) (v := ?_) (a' := ?_) #[true, true, true, true, true, false, true, false, false, true, false, false, false, false, false, false, false, false, false, false, false] rfl rfl (take_ofW HT_.out HW_.out (by kernel_rfl)) (fun _ _ _ h => h) (Or.inl ⟨by rfl, ?_⟩) hHeld ?_ ?_
    rotate_left
    · rintro w' s0
      go_simp
      with_reducible rfl
    rotate_left
    · simp only [Act.put, List.setIfInBounds_toArray, List.set_cons_zero, List.set_cons_succ, i64_w, i32_w]
      rfl
    refine take_ (i := 7) (N := (some 54)) (v := ?_) (a' := ?_) #[true, true, true, true, true, false, true, true, false, true, false, false, false, false, false, false, false, false, false, false, false] rfl rfl (take_ofW HT_.out HW_.out (by kernel_rfl)) (fun _ _ _ h => h) (Or.inl ⟨by rfl, ?_⟩) hHeld ?_ ?_
    rotate_left
    · rintro w' s0
      go_simp
      with_reducible rfl
    rotate_left
    · simp only [Act.put, List.setIfInBounds_toArray, List.set_cons_zero, List.set_cons_succ, i64_w, i32_w]
      rfl
    refine take_ (i := 10) (N := (some 57)) (v := ?_) (a' := ?_) #[true, true, true, true, true, false, true, true, false, true, true, false, false, false, false, false, false, false, false, false, false] rfl rfl (take_ofW HT_.out HW_.out (by kernel_rfl)) (fun _ _ _ h => h) (Or.inl ⟨by rfl, ?_⟩) hHeld ?_ ?_
    rotate_left
    · rintro w' s0
      go_simp
      with_reducible rfl
    rotate_left
    · simp only [Act.put, List.setIfInBounds_toArray, List.set_cons_zero, List.set_cons_succ, i64_w, i32_w]
      rfl
    refine one_ (i := 5) (N := (some 52)) #[true, true, true, true, true, true, true, true, false, true, true, false, false, false, false, false, false, false, false, false, false] rfl rfl (one_of HT_.out (by kernel_rfl)) (by decide) (fun K hK => ?_)
    have hX := HX6.out
    rcases hres : rnum 2147483647 (b.drop q5) with f | ⟨gf, r⟩
    · rw [hres, bnd_err] at hX
      refine goesP_ Try.func131 (by kernel_rfl) rfl #[.pointer (some ⟨P, 0, none⟩), .int .i64 2147483647] (by rfl) rfl rfl (by (try simp only [List.map_toArray, List.map_cons, List.map_nil]); first | done | rfl) ?_
      refine (snum_err HE14.out.spot (HG0.out _ HE14.out.grown) hc HBB.out hq5 2147483647 (by decide) (by decide) f hres).mono ?_
      rintro e w' ⟨rfl, hg⟩
      exact .inr ⟨_, rfl, And.intro rfl (RdP.err hX (HE14.out.grown.trans hg))⟩
    obtain ⟨q6, hq6, rfl, hql, hn0gf, hn1gf⟩ := rnum_rest HBB.out hq5 hres
    rw [hres, bnd_ok] at hX
    have HX7 := Lib.hid hX
    refine goesP_ Try.func131 (by kernel_rfl) rfl #[.pointer (some ⟨P, 0, none⟩), .int .i64 2147483647] (by rfl) rfl rfl (by (try simp only [List.map_toArray, List.map_cons, List.map_nil]); first | done | rfl) ?_
    refine (snum_ok HE14.out.spot (HG0.out _ HE14.out.grown) hc HBB.out hq5 2147483647 (by decide) (by decide) gf _ hres).mono ?_
    rintro e v15 ⟨rfl, hk, hg⟩
    rw [hql] at hk
    have HE15 := Lib.hid (HE14.out.num hPl hk hg)
    clear hk hg hres hX hql HX6 HE14
    refine .inl ⟨_, rfl, ?_⟩
    refine hK.out _ _ HE15.out.ptr.c0 (fun hHeld => ?_)
    clear hK K
    refine norm_ (a' := ?_) ?_ ?_
    rotate_left
    · show Act.put _ (some 52) _ = _
      simp only [Act.put, List.setIfInBounds_toArray, List.set_cons_zero, List.set_cons_succ, i64_w, i32_w]
      rfl
    refine one_ (i := 8) (N := (some 55)) #[true, true, true, true, true, true, true, true, true, true, true, false, false, false, false, false, false, false, false, false, false] rfl rfl (one_of HT_.out (by kernel_rfl)) (by decide) (fun K hK => ?_)
    have hX := HX7.out
    rcases hres : rnum 2147483647 (b.drop q6) with f | ⟨gt, r⟩
    · rw [hres, bnd_err] at hX
      refine goesP_ Try.func131 (by kernel_rfl) rfl #[.pointer (some ⟨P, 0, none⟩), .int .i64 2147483647] (by rfl) rfl rfl (by (try simp only [List.map_toArray, List.map_cons, List.map_nil]); first | done | rfl) ?_
      refine (snum_err HE15.out.spot (HG0.out _ HE15.out.grown) hc HBB.out hq6 2147483647 (by decide) (by decide) f hres).mono ?_
      rintro e w' ⟨rfl, hg⟩
      exact .inr ⟨_, rfl, And.intro rfl (RdP.err hX (HE15.out.grown.trans hg))⟩
    obtain ⟨q7, hq7, rfl, hql, hn0gt, hn1gt⟩ := rnum_rest HBB.out hq6 hres
    rw [hres, bnd_ok] at hX
    have HX8 := Lib.hid hX
    refine goesP_ Try.func131 (by kernel_rfl) rfl #[.pointer (some ⟨P, 0, none⟩), .int .i64 2147483647] (by rfl) rfl rfl (by (try simp only [List.map_toArray, List.map_cons, List.map_nil]); first | done | rfl) ?_
    refine (snum_ok HE15.out.spot (HG0.out _ HE15.out.grown) hc HBB.out hq6 2147483647 (by decide) (by decide) gt _ hres).mono ?_
    rintro e v16 ⟨rfl, hk, hg⟩
    rw [hql] at hk
    have HE16 := Lib.hid (HE15.out.num hPl hk hg)
    clear hk hg hres hX hql HX7 HE15
    refine .inl ⟨_, rfl, ?_⟩
    refine hK.out _ _ HE16.out.ptr.c0 (fun hHeld => ?_)
    clear hK K
    refine norm_ (a' := ?_) ?_ ?_
    rotate_left
    · show Act.put _ (some 55) _ = _
      simp only [Act.put, List.setIfInBounds_toArray, List.set_cons_zero, List.set_cons_succ, i64_w, i32_w]
      rfl
    refine one_ (i := 11) (N := (some 58)) #[true, true, true, true, true, true, true, true, true, true, true, true, false, false, false, false, false, false, false, false, false] rfl rfl (one_of HT_.out (by kernel_rfl)) (by decide) (fun K hK => ?_)
    have hX := HX8.out
    rcases hres : rnum 2147483647 (b.drop q7) with f | ⟨ins, r⟩
    · rw [hres, bnd_err] at hX
      refine goesP_ Try.func131 (by kernel_rfl) rfl #[.pointer (some ⟨P, 0, none⟩), .int .i64 2147483647] (by rfl) rfl rfl (by (try simp only [List.map_toArray, List.map_cons, List.map_nil]); first | done | rfl) ?_
      refine (snum_err HE16.out.spot (HG0.out _ HE16.out.grown) hc HBB.out hq7 2147483647 (by decide) (by decide) f hres).mono ?_
      rintro e w' ⟨rfl, hg⟩
      exact .inr ⟨_, rfl, And.intro rfl (RdP.err hX (HE16.out.grown.trans hg))⟩
    obtain ⟨q8, hq8, rfl, hql, hn0ins, hn1ins⟩ := rnum_rest HBB.out hq7 hres
    rw [hres, bnd_ok] at hX
    have HX9 := Lib.hid hX
    refine goesP_ Try.func131 (by kernel_rfl) rfl #[.pointer (some ⟨P, 0, none⟩), .int .i64 2147483647] (by rfl) rfl rfl (by (try simp only [List.map_toArray, List.map_cons, List.map_nil]); first | done | rfl) ?_
    refine (snum_ok HE16.out.spot (HG0.out _ HE16.out.grown) hc HBB.out hq7 2147483647 (by decide) (by decide) ins _ hres).mono ?_
    rintro e v17 ⟨rfl, hk, hg⟩
    rw [hql] at hk
    have HE17 := Lib.hid (HE16.out.num hPl hk hg)
    clear hk hg hres hX hql HX8 HE16
    refine .inl ⟨_, rfl, ?_⟩
    refine hK.out _ _ HE17.out.ptr.c0 (fun hHeld => ?_)
    clear hK K
    refine norm_ (a' := ?_) ?_ ?_
    rotate_left
    · show Act.put _ (some 58) _ = _
      simp only [Act.put, List.setIfInBounds_toArray, List.set_cons_zero, List.set_cons_succ, i64_w, i32_w]
      rfl
    refine pure_ (i := 12) (N := (some 59)) (v := ?_) (a' := ?_) #[true, true, true, true, true, true, true, true, true, true, true, true, true, false, false, false, false, false, false, false, false] rfl rfl (any_of HT_.out (by kernel_rfl)) (fun _ _ _ h => h) (Or.inl ⟨by rfl, ?_⟩) ?_ ?_
    rotate_left
    · intro w'
      go_simp
      with_reducible rfl
    rotate_left
    · simp only [Act.put, List.setIfInBounds_toArray, List.set_cons_zero, List.set_cons_succ, i64_w, i32_w]
      rfl
    refine pure_ (i := 13) (N := (some 60)) (v := ?_) (a' := ?_) #[true, true, true, true, true, true, true, true, true, true, true, true, true, true, false, false, false, false, false, false, false] rfl rfl (any_of HT_.out (by kernel_rfl)) (fun _ _ _ h => h) (Or.inl ⟨by rfl, ?_⟩) ?_ ?_
    rotate_left
    · intro w'
      go_simp
      with_reducible rfl
    rotate_left
    · simp only [Act.put, List.setIfInBounds_toArray, List.set_cons_zero, List.set_cons_succ, i64_w, i32_w]
      rfl
    refine one_ (i := 14) (N := none) #[true, true, true, true, true, true, true, true, true, true, true, true, true, true, true, false, false, false, false, false, false] rfl rfl (one_of HT_.out (by kernel_rfl)) (by decide) (fun K hK => ?_)
    have hcc := HE17.out.c5
    have hff := HE17.out.f 5
    refine skip_ (w1 := (v17.setCell ⟨w.heap.size + 1, 5, none⟩ (.int .i64 gf))) (by rfl) rfl ?_ ?_
    · go_simp
      try rfl
    have HE18 : Hid (EnS w (v17.setCell ⟨w.heap.size + 1, 5, none⟩ (.int .i64 gf)) P A c b.length q8 who seq 1 fm tt gf 0 0 (.slice none 0 0) 0) := Lib.hid (HE17.out.put hPl 5 (.int .i64 gf) rfl)
    clear hcc hff HE17
    refine hK.out _ _ HE18.out.ptr.c0 (fun hHeld => ?_)
    clear hK K
    refine pure_ (i := 15) (N := (some 61)) (v := ?_) (a' := ?_) #[true, true, true, true, true, true, true, true, true, true, true, true, true, true, true, true, false, false, false, false, false] rfl rfl (any_of HT_.out (by kernel_rfl)) (fun _ _ _ h => h) (Or.inl ⟨by rfl, ?_⟩) ?_ ?_
    rotate_left
    · intro w'
      go_simp
      with_reducible rfl
    rotate_left
    · simp only [Act.put, List.setIfInBounds_toArray, List.set_cons_zero, List.set_cons_succ, i64_w, i32_w]
      rfl
    refine pure_ (i := 16) (N := (some 62)) (v := ?_) (a' := ?_) #[true, true, true, true, true, true, true, true, true, true, true, true, true, true, true, true, true, false, false, false, false] rfl rfl (any_of HT_.out (by kernel_rfl)) (fun _ _ _ h => h) (Or.inl ⟨by rfl, ?_⟩) ?_ ?_
    rotate_left
    · intro w'
      go_simp
      with_reducible rfl
    rotate_left
    · simp only [Act.put, List.setIfInBounds_toArray, List.set_cons_zero, List.set_cons_succ, i64_w, i32_w]
      rfl
    refine one_ (i := 17) (N := none) #[true, true, true, true, true, true, true, true, true, true, true, true, true, true, true, true, true, true, false, false, false] rfl rfl (one_of HT_.out (by kernel_rfl)) (by decide) (fun K hK => ?_)
    have hcc := HE18.out.c6
    have hff := HE18.out.f 6
    refine skip_ (w1 := ((v17.setCell ⟨w.heap.size + 1, 5, none⟩ (.int .i64 gf)).setCell ⟨w.heap.size + 1, 6, none⟩ (.int .i64 gt))) (by rfl) rfl ?_ ?_
    · go_simp
      try rfl
    have HE19 : Hid (EnS w ((v17.setCell ⟨w.heap.size + 1, 5, none⟩ (.int .i64 gf)).setCell ⟨w.heap.size + 1, 6, none⟩ (.int .i64 gt)) P A c b.length q8 who seq 1 fm tt gf gt 0 (.slice none 0 0) 0) := Lib.hid (HE18.out.put hPl 6 (.int .i64 gt) rfl)
    clear hcc hff HE18
    refine hK.out _ _ HE19.out.ptr.c0 (fun hHeld => ?_)
    clear hK K
    refine pure_ (i := 18) (N := (some 63)) (v := ?_) (a' := ?_) #[true, true, true, true, true, true, true, true, true, true, true, true, true, true, true, true, true, true, true, false, false] rfl rfl (any_of HT_.out (by kernel_rfl)) (fun _ _ _ h => h) (Or.inl ⟨by rfl, ?_⟩) ?_ ?_
    rotate_left
    · intro w'
      go_simp
      with_reducible rfl
    rotate_left
    · simp only [Act.put, List.setIfInBounds_toArray, List.set_cons_zero, List.set_cons_succ, i64_w, i32_w]
      rfl
    refine pure_ (i := 19) (N := (some 64)) (v := ?_) (a' := ?_) #[true, true, true, true, true, true, true, true, true, true, true, true, true, true, true, true, true, true, true, true, false] rfl rfl (any_of HT_.out (by kernel_rfl)) (fun _ _ _ h => h) (Or.inl ⟨by rfl, ?_⟩) ?_ ?_
    rotate_left
    · intro w'
      go_simp
      with_reducible rfl
    rotate_left
    · simp only [Act.put, List.setIfInBounds_toArray, List.set_cons_zero, List.set_cons_succ, i64_w, i32_w]
      rfl
    refine one_ (i := 20) (N := none) #[true, true, true, true, true, true, true, true, true, true, true, true, true, true, true, true, true, true, true, true, true] rfl rfl (one_of HT_.out (by kernel_rfl)) (by decide) (fun K hK => ?_)
    have hcc := HE19.out.c7
    have hff := HE19.out.f 7
    refine skip_ (w1 := (((v17.setCell ⟨w.heap.size + 1, 5, none⟩ (.int .i64 gf)).setCell ⟨w.heap.size + 1, 6, none⟩ (.int .i64 gt)).setCell ⟨w.heap.size + 1, 7, none⟩ (.int .i64 ins))) (by rfl) rfl ?_ ?_
    · go_simp
      try rfl
    have HE20 : Hid (EnS w (((v17.setCell ⟨w.heap.size + 1, 5, none⟩ (.int .i64 gf)).setCell ⟨w.heap.size + 1, 6, none⟩ (.int .i64 gt)).setCell ⟨w.heap.size + 1, 7, none⟩ (.int .i64 ins)) P A c b.length q8 who seq 1 fm tt gf gt ins (.slice none 0 0) 0) := Lib.hid (HE19.out.put hPl 7 (.int .i64 ins) rfl)
    clear hcc hff HE19
    refine hK.out _ _ HE20.out.ptr.c0 (fun hHeld => ?_)
    clear hK K
    refine done_ (done_of HT_.out (by kernel_rfl)) ?_
    go_upto_region 11 with (fail)
    have hX := HX9.out
    have hd := sdoc_is HC.out hc HBB.out (below_of_grown HB0.out HE20.out.grown hP) hP HE20.out.spot hq8
    have hEs := HE20.out.size
    obtain ⟨W11, hW11⟩ : ∃ W11, (((v17.setCell ⟨w.heap.size + 1, 5, none⟩ (.int .i64 gf)).setCell ⟨w.heap.size + 1, 6, none⟩ (.int .i64 gt)).setCell ⟨w.heap.size + 1, 7, none⟩ (.int .i64 ins)) = W11 := ⟨_, rfl⟩
    rw [hW11] at hd hEs HE20 ⊢
    have r0 := HE20.out.ptr.c0
    skip
    clear hW11
    rcases hres : rdoc (b.drop q8) with f | ⟨sl, r⟩
    · rw [hres, bnd_err] at hX
      rw [hres] at hd
      have HD := Lib.hid hd
      have HX := Lib.hid hX
      clear hX hres hd HX9
      go_wp2_with (go_at_call 125; refine HD.out.mono ?_; rintro e w17 h17; obtain ⟨rfl, hg⟩ := h17.err_inv; have HG17 := Lib.hid (HE20.out.grown.trans hg); clear h17 hg)
      exact ⟨rfl, RdP.err HX.out HG17.out⟩
    · rw [hres, bnd_ok] at hX
      rw [hres] at hd
      have HD := Lib.hid hd
      have HX := Lib.hid hX
      clear hX hres hd HX9
      go_upto_region 12 with (go_at_call 125; refine HD.out.mono ?_; rintro e w17 h17; obtain ⟨u, rfl, ht, hk, hg⟩ := h17.ok_inv; obtain ⟨Au, cu, rfl, _, _⟩ := Kd.R_reads ht; have HE30 := Lib.hid (HE20.out.num hPl hk hg); have f8 := HE30.out.f 8; have c8 := HE30.out.c8; have HE31 := Lib.hid (HE30.out.put hPl 8 (.slice Au sl.length cu) (b0 := who) (b1 := seq) (b2 := 1) (b3 := fm) (b4 := tt) (b5 := gf) (b6 := gt) (b7 := ins) (b9 := 0) (v' := .slice Au sl.length cu) rfl); have HLT : Hid (w.heap.size + 1 < W11.heap.size) := Lib.hid (by omega); have HT := Lib.hid (ht.set (E := w.heap.size + 1) HLT.out 8 (.slice Au sl.length cu)); clear h17 hk hg ht)
      have e0 := HE31.out.c0
      have e1 := HE31.out.c1
      have e2 := HE31.out.c2
      have e3 := HE31.out.c3
      have e4 := HE31.out.c4
      have e5 := HE31.out.c5
      have e6 := HE31.out.c6
      have e7 := HE31.out.c7
      have e8 := HE31.out.c8
      have e9 := HE31.out.c9
      obtain ⟨w18, hw18⟩ : ∃ w18, w17.setCell ⟨w.heap.size + 1, 8, none⟩ (.slice Au sl.length cu) = w18 := ⟨_, rfl⟩
      rw [hw18] at e0 e1 e2 e3 e4 e5 e6 e7 e8 e9 HE31 HT ⊢
      have ff := HE31.out.f
      clear hw18 HE30 HD
      go_wp2
      have g0 := HE31.out.put hPl 0 (.int .i64 who) (b0 := who) (b1 := seq) (b2 := 1) (b3 := fm) (b4 := tt) (b5 := gf) (b6 := gt) (b7 := ins) (b9 := 0) (v' := (.slice Au sl.length cu)) rfl
      have g1 := g0.put hPl 1 (.int .i64 seq) (b0 := who) (b1 := seq) (b2 := 1) (b3 := fm) (b4 := tt) (b5 := gf) (b6 := gt) (b7 := ins) (b9 := 0) (v' := (.slice Au sl.length cu)) rfl
      clear g0
      have g2 := g1.put hPl 2 (.int .i64 1) (b0 := who) (b1 := seq) (b2 := 1) (b3 := fm) (b4 := tt) (b5 := gf) (b6 := gt) (b7 := ins) (b9 := 0) (v' := (.slice Au sl.length cu)) rfl
      clear g1
      have g3 := g2.put hPl 3 (.int .i64 fm) (b0 := who) (b1 := seq) (b2 := 1) (b3 := fm) (b4 := tt) (b5 := gf) (b6 := gt) (b7 := ins) (b9 := 0) (v' := (.slice Au sl.length cu)) rfl
      clear g2
      have g4 := g3.put hPl 4 (.int .i64 tt) (b0 := who) (b1 := seq) (b2 := 1) (b3 := fm) (b4 := tt) (b5 := gf) (b6 := gt) (b7 := ins) (b9 := 0) (v' := (.slice Au sl.length cu)) rfl
      clear g3
      have g5 := g4.put hPl 5 (.int .i64 gf) (b0 := who) (b1 := seq) (b2 := 1) (b3 := fm) (b4 := tt) (b5 := gf) (b6 := gt) (b7 := ins) (b9 := 0) (v' := (.slice Au sl.length cu)) rfl
      clear g4
      have g6 := g5.put hPl 6 (.int .i64 gt) (b0 := who) (b1 := seq) (b2 := 1) (b3 := fm) (b4 := tt) (b5 := gf) (b6 := gt) (b7 := ins) (b9 := 0) (v' := (.slice Au sl.length cu)) rfl
      clear g5
      have g7 := g6.put hPl 7 (.int .i64 ins) (b0 := who) (b1 := seq) (b2 := 1) (b3 := fm) (b4 := tt) (b5 := gf) (b6 := gt) (b7 := ins) (b9 := 0) (v' := (.slice Au sl.length cu)) rfl
      clear g6
      have g8 := g7.put hPl 8 (.slice Au sl.length cu) (b0 := who) (b1 := seq) (b2 := 1) (b3 := fm) (b4 := tt) (b5 := gf) (b6 := gt) (b7 := ins) (b9 := 0) (v' := (.slice Au sl.length cu)) rfl
      clear g7
      have g9 := g8.put hPl 9 (.int .i64 0) (b0 := who) (b1 := seq) (b2 := 1) (b3 := fm) (b4 := tt) (b5 := gf) (b6 := gt) (b7 := ins) (b9 := 0) (v' := (.slice Au sl.length cu)) rfl
      clear g8
      have t0 := HT.out
      replace t0 := t0.set (E := w.heap.size + 1) HLT.out 0 (.int .i64 who)
      replace t0 := t0.set (E := w.heap.size + 1) HLT.out 1 (.int .i64 seq)
      replace t0 := t0.set (E := w.heap.size + 1) HLT.out 2 (.int .i64 1)
      replace t0 := t0.set (E := w.heap.size + 1) HLT.out 3 (.int .i64 fm)
      replace t0 := t0.set (E := w.heap.size + 1) HLT.out 4 (.int .i64 tt)
      replace t0 := t0.set (E := w.heap.size + 1) HLT.out 5 (.int .i64 gf)
      replace t0 := t0.set (E := w.heap.size + 1) HLT.out 6 (.int .i64 gt)
      replace t0 := t0.set (E := w.heap.size + 1) HLT.out 7 (.int .i64 ins)
      replace t0 := t0.set (E := w.heap.size + 1) HLT.out 8 (.slice Au sl.length cu)
      replace t0 := t0.set (E := w.heap.size + 1) HLT.out 9 (.int .i64 0)
      have z0 := g9.c0
      have z1 := g9.c1
      have z2 := g9.c2
      have z3 := g9.c3
      have z4 := g9.c4
      have z5 := g9.c5
      have z6 := g9.c6
      have z7 := g9.c7
      have z8 := g9.c8
      have z9 := g9.c9
      refine bodyPost_ret (v := .agg #[.int .i64 who, .int .i64 seq, .int .i64 1, .int .i64 fm, .int .i64 tt, .int .i64 gf, .int .i64 gt, .int .i64 ins, .slice Au sl.length cu, .int .i64 0]) (by simp [results, Try.results94, go_sem, z0, z1, z2, z3, z4, z5, z6, z7, z8, z9]) rfl ?_
      exact RdP.ok HX.out g9.grown ⟨_, rfl, Kd.R_lower t0 (by have := HLT.out; omega)⟩ g9.spot rfl
  · have hX := HX5.out
    rw [if_neg (by decide), if_neg (by decide)] at hX
    have HX6 := Lib.hid hX
    clear hX HX5
    have hX := HX6.out
    have hd := sdoc_is HC.out hc HBB.out (below_of_grown HB0.out HE13.out.grown hP) hP HE13.out.spot hq5
    have hEs := HE13.out.size
    obtain ⟨W11, hW11⟩ : ∃ W11, (((v10.setCell ⟨w.heap.size + 1, 2, none⟩ (.int .i64 0)).setCell ⟨w.heap.size + 1, 3, none⟩ (.int .i64 fm)).setCell ⟨w.heap.size + 1, 4, none⟩ (.int .i64 tt)) = W11 := ⟨_, rfl⟩
    rw [hW11] at hd hEs HE13 ⊢
    have r0 := HE13.out.ptr.c0
    have c2 := HE13.out.c2
    clear hW11
    rcases hres : rdoc (b.drop q5) with f | ⟨sl, r⟩
    · rw [hres, bnd_err] at hX
      rw [hres] at hd
      have HD := Lib.hid hd
      have HX := Lib.hid hX
      clear hX hres hd HX6
      go_wp2_with (go_at_call 125; refine HD.out.mono ?_; rintro e w17 h17; obtain ⟨rfl, hg⟩ := h17.err_inv; have HG17 := Lib.hid (HE13.out.grown.trans hg); clear h17 hg)
      exact ⟨rfl, RdP.err HX.out HG17.out⟩
    · rw [hres, bnd_ok] at hX
      rw [hres] at hd
      have HD := Lib.hid hd
      have HX := Lib.hid hX
      clear hX hres hd HX6
      go_upto_region 12 with (go_at_call 125; refine HD.out.mono ?_; rintro e w17 h17; obtain ⟨u, rfl, ht, hk, hg⟩ := h17.ok_inv; obtain ⟨Au, cu, rfl, _, _⟩ := Kd.R_reads ht; have HE30 := Lib.hid (HE13.out.num hPl hk hg); have f8 := HE30.out.f 8; have c8 := HE30.out.c8; have HE31 := Lib.hid (HE30.out.put hPl 8 (.slice Au sl.length cu) (b0 := who) (b1 := seq) (b2 := 0) (b3 := fm) (b4 := tt) (b5 := 0) (b6 := 0) (b7 := 0) (b9 := 0) (v' := .slice Au sl.length cu) rfl); have HLT : Hid (w.heap.size + 1 < W11.heap.size) := Lib.hid (by omega); have HT := Lib.hid (ht.set (E := w.heap.size + 1) HLT.out 8 (.slice Au sl.length cu)); clear h17 hk hg ht)
      have e0 := HE31.out.c0
      have e1 := HE31.out.c1
      have e2 := HE31.out.c2
      have e3 := HE31.out.c3
      have e4 := HE31.out.c4
      have e5 := HE31.out.c5
      have e6 := HE31.out.c6
      have e7 := HE31.out.c7
      have e8 := HE31.out.c8
      have e9 := HE31.out.c9
      obtain ⟨w18, hw18⟩ : ∃ w18, w17.setCell ⟨w.heap.size + 1, 8, none⟩ (.slice Au sl.length cu) = w18 := ⟨_, rfl⟩
      rw [hw18] at e0 e1 e2 e3 e4 e5 e6 e7 e8 e9 HE31 HT ⊢
      have ff := HE31.out.f
      clear hw18 HE30 HD
      go_wp2
      have g0 := HE31.out.put hPl 0 (.int .i64 who) (b0 := who) (b1 := seq) (b2 := 0) (b3 := fm) (b4 := tt) (b5 := 0) (b6 := 0) (b7 := 0) (b9 := 0) (v' := (.slice Au sl.length cu)) rfl
      have g1 := g0.put hPl 1 (.int .i64 seq) (b0 := who) (b1 := seq) (b2 := 0) (b3 := fm) (b4 := tt) (b5 := 0) (b6 := 0) (b7 := 0) (b9 := 0) (v' := (.slice Au sl.length cu)) rfl
      clear g0
      have g2 := g1.put hPl 2 (.int .i64 0) (b0 := who) (b1 := seq) (b2 := 0) (b3 := fm) (b4 := tt) (b5 := 0) (b6 := 0) (b7 := 0) (b9 := 0) (v' := (.slice Au sl.length cu)) rfl
      clear g1
      have g3 := g2.put hPl 3 (.int .i64 fm) (b0 := who) (b1 := seq) (b2 := 0) (b3 := fm) (b4 := tt) (b5 := 0) (b6 := 0) (b7 := 0) (b9 := 0) (v' := (.slice Au sl.length cu)) rfl
      clear g2
      have g4 := g3.put hPl 4 (.int .i64 tt) (b0 := who) (b1 := seq) (b2 := 0) (b3 := fm) (b4 := tt) (b5 := 0) (b6 := 0) (b7 := 0) (b9 := 0) (v' := (.slice Au sl.length cu)) rfl
      clear g3
      have g5 := g4.put hPl 5 (.int .i64 0) (b0 := who) (b1 := seq) (b2 := 0) (b3 := fm) (b4 := tt) (b5 := 0) (b6 := 0) (b7 := 0) (b9 := 0) (v' := (.slice Au sl.length cu)) rfl
      clear g4
      have g6 := g5.put hPl 6 (.int .i64 0) (b0 := who) (b1 := seq) (b2 := 0) (b3 := fm) (b4 := tt) (b5 := 0) (b6 := 0) (b7 := 0) (b9 := 0) (v' := (.slice Au sl.length cu)) rfl
      clear g5
      have g7 := g6.put hPl 7 (.int .i64 0) (b0 := who) (b1 := seq) (b2 := 0) (b3 := fm) (b4 := tt) (b5 := 0) (b6 := 0) (b7 := 0) (b9 := 0) (v' := (.slice Au sl.length cu)) rfl
      clear g6
      have g8 := g7.put hPl 8 (.slice Au sl.length cu) (b0 := who) (b1 := seq) (b2 := 0) (b3 := fm) (b4 := tt) (b5 := 0) (b6 := 0) (b7 := 0) (b9 := 0) (v' := (.slice Au sl.length cu)) rfl
      clear g7
      have g9 := g8.put hPl 9 (.int .i64 0) (b0 := who) (b1 := seq) (b2 := 0) (b3 := fm) (b4 := tt) (b5 := 0) (b6 := 0) (b7 := 0) (b9 := 0) (v' := (.slice Au sl.length cu)) rfl
      clear g8
      have t0 := HT.out
      replace t0 := t0.set (E := w.heap.size + 1) HLT.out 0 (.int .i64 who)
      replace t0 := t0.set (E := w.heap.size + 1) HLT.out 1 (.int .i64 seq)
      replace t0 := t0.set (E := w.heap.size + 1) HLT.out 2 (.int .i64 0)
      replace t0 := t0.set (E := w.heap.size + 1) HLT.out 3 (.int .i64 fm)
      replace t0 := t0.set (E := w.heap.size + 1) HLT.out 4 (.int .i64 tt)
      replace t0 := t0.set (E := w.heap.size + 1) HLT.out 5 (.int .i64 0)
      replace t0 := t0.set (E := w.heap.size + 1) HLT.out 6 (.int .i64 0)
      replace t0 := t0.set (E := w.heap.size + 1) HLT.out 7 (.int .i64 0)
      replace t0 := t0.set (E := w.heap.size + 1) HLT.out 8 (.slice Au sl.length cu)
      replace t0 := t0.set (E := w.heap.size + 1) HLT.out 9 (.int .i64 0)
      have z0 := g9.c0
      have z1 := g9.c1
      have z2 := g9.c2
      have z3 := g9.c3
      have z4 := g9.c4
      have z5 := g9.c5
      have z6 := g9.c6
      have z7 := g9.c7
      have z8 := g9.c8
      have z9 := g9.c9
      refine bodyPost_ret (v := .agg #[.int .i64 who, .int .i64 seq, .int .i64 0, .int .i64 fm, .int .i64 tt, .int .i64 0, .int .i64 0, .int .i64 0, .slice Au sl.length cu, .int .i64 0]) (by simp [results, Try.results94, go_sem, z0, z1, z2, z3, z4, z5, z6, z7, z8, z9]) rfl ?_
      exact RdP.ok HX.out g9.grown ⟨_, rfl, Kd.R_lower t0 (by have := HLT.out; omega)⟩ g9.spot rfl
end Go.Proofs.Ytmbnjgnmblgjoaa.Man
end

-- Run
section
/- codec.run: what its deferred closure does, what it comes to. -/



namespace Go.Proofs.Ytmbnjgnmblgjoaa.Man
open Go.RowKit Go.Proofs.YtmbnjgnmblgjoaaW.PrintWords Go.Proofs.YtmbnjgnmblgjoaaW.PrintLast Go.Proofs.YtmbnjgnmblgjoaaW.PrintMore
set_option linter.unusedVariables false
set_option linter.unusedSimpArgs false
set_option maxRecDepth 100000

theorem assert_err (v : Value) (W : World) : (Instr.typeAssert (.iface 28 v) 20 28 true).run Try.prog W = .ok (.tuple #[v, .bool true]) W := by
  simp [Instr.typeAssert, run_underlying Try.underlying28, go_sem, Result.andThen]
set_option maxHeartbeats 4000000 in
theorem catch_err (p : Addr) (x : Value) (f : Int) (w : World) (hc : w.cell? p = some x) (hz : w.frozen? p = false) :
    CallsD Try.prog 143 #[.pointer (some p)] (.panicking (errCh f)) w fun e u' w' =>
      e = .returned (.tuple #[]) ∧ u' = .panicking [{ v := .iface 28 (.int .i64 f), recovered := true }] ∧ w' = w.setCell p (.int .i64 f) := by
  have hta := assert_err (.int .i64 f)
  refine callsD_of_wpS Try.func143 rfl fun c₀ cs hu => ?_
  apply wpS_seq
  apply wpS_region
  simp [wpOpsS, go_sem, recoverD, hu, Try.ntmps143, Exit.thenS]
  refine wpS_of_wp ?_
  go_wp2
  cases c₀
  simp_all [bodyPostS, results, Try.results143]
theorem catch_none (p : Addr) (w : World) :
    CallsD Try.prog 143 #[.pointer (some p)] .returning w fun e u' w' => e = .returned (.tuple #[]) ∧ u' = .returning ∧ w' = w := by
  refine callsD_of_wpS Try.func143 rfl fun c₀ cs hu => ?_
  apply wpS_seq
  apply wpS_region
  simp [wpOpsS, go_sem, recoverD, hu, Try.ntmps143, Exit.thenS]
  refine wpS_of_wp ?_
  go_wp2
  cases c₀
  simp_all [bodyPostS, results, Try.results143]

/-- The result's variable, as_ run lays it. -/
def ResAt (w : World) (R : Nat) (f : Int) : Prop := w.heap[R]? = some (.cells #[.int .i64 f] 28 (0, 0))
theorem ResAt.c0 {w : World} {R : Nat} {f : Int} (k : ResAt w R f) : w.cell? ⟨R, 0, none⟩ = some (.int .i64 f) := by simp [World.cell?, show w.heap[R]? = _ from k]
theorem ResAt.f {w : World} {R : Nat} {f : Int} (k : ResAt w R f) : w.frozen? ⟨R, 0, none⟩ = false := by simp [World.frozen?, show w.heap[R]? = _ from k]
theorem ResAt.put {w : World} {R : Nat} {f : Int} (k : ResAt w R f) (g : Int) : ResAt (w.setCell ⟨R, 0, none⟩ (.int .i64 g)) R g := by
  unfold ResAt World.setCell
  simp [Array.getElem?_modify, show w.heap[R]? = _ from k]
theorem ResAt.lt {w : World} {R : Nat} {f : Int} (k : ResAt w R f) : R < w.heap.size := (Array.getElem?_eq_some_iff.1 k).1
abbrev runW (w : World) (A : Option Addr) (n c : Nat) : World := (w.alloc (.cells #[.int .i64 0] 28)).alloc (.cells #[.slice A n c, .int .i64 0] 194)

set_option maxHeartbeats 8000000 in
/-- The reading panics. -/
theorem run_err (w : World) (A : Option Addr) (n c : Nat) (R T : Nat) (cr ct : Array Value) (f : Int) (J : World → Prop)
    (er : ∀ args w, (callFunc R args).run Try.prog w = .ok (.enter R args) w)
    (hread : Calls Try.prog R (#[.agg #[.pointer (some ⟨w.heap.size + 1, 0, none⟩)]] ++ cr) (runW w A n c) fun e w1 => e = .panicked (errCh f) ∧ ResAt w1 w.heap.size 0 ∧ J w1) :
    Calls Try.prog 92 #[.slice A n c, .func (.func R) #[] cr, .func (.func T) #[] ct] w fun e w' => e = .returned (.int .i64 f) ∧ ∃ w1, J w1 ∧ w' = w1.setCell ⟨w.heap.size, 0, none⟩ (.int .i64 f) := by
  have hmf : ∀ (fn : Fn) (first cap : Array Value) (w : World), (Instr.makeFunc fn first cap).run Try.prog w = .ok (.func fn first cap) w := fun _ _ _ _ => rfl
  have HR := Lib.hid hread
  clear hread
  go_enter_defers Try.func92, Try.ntmps92
  go_wp2_with (fail)
  refine HR.out.mono ?_
  rintro e w1 ⟨rfl, hres, hj⟩
  refine leaves_cons (f := 143) (args := #[.pointer (some ⟨w.heap.size, 0, none⟩)]) (by simp) (by simp [go_sem]) ?_
  refine (catch_err ⟨w.heap.size, 0, none⟩ _ f w1 hres.c0 hres.f).mono ?_
  rintro e u' w'' ⟨rfl, rfl, rfl⟩
  have hc := (hres.put f).c0
  simp [Leaves, settle, results, Try.results92, go_sem, hc]
  exact ⟨w1, hj, rfl⟩

set_option maxHeartbeats 8000000 in
/-- The reading ends ahead of the bytes' end. -/
theorem run_left (w : World) (A : Option Addr) (n c q : Nat) (R T : Nat) (cr ct : Array Value) (J : World → Prop) (hq : q < n)
    (er : ∀ args w, (callFunc R args).run Try.prog w = .ok (.enter R args) w)
    (hread : Calls Try.prog R (#[.agg #[.pointer (some ⟨w.heap.size + 1, 0, none⟩)]] ++ cr) (runW w A n c) fun e w1 => e = .returned (.tuple #[]) ∧ ResAt w1 w.heap.size 0 ∧ SpotAt w1 (w.heap.size + 1) A c n q ∧ J w1) :
    Calls Try.prog 92 #[.slice A n c, .func (.func R) #[] cr, .func (.func T) #[] ct] w fun e w' => e = .returned (.int .i64 4) ∧ ∃ w1, J w1 ∧ w' = w1.setCell ⟨w.heap.size, 0, none⟩ (.int .i64 4) := by
  have hmf : ∀ (fn : Fn) (first cap : Array Value) (w : World), (Instr.makeFunc fn first cap).run Try.prog w = .ok (.func fn first cap) w := fun _ _ _ _ => rfl
  have HR := Lib.hid hread
  clear hread
  have hlt : decide (q < n) = true := decide_eq_true hq
  have hlt2 : decide ((q : Int) < (n : Int)) = true := decide_eq_true (by omega)
  go_enter_defers Try.func92, Try.ntmps92
  go_wp2_with (fail)
  refine HR.out.mono ?_
  rintro e w1 ⟨rfl, hres, hs, hj⟩
  have d1 := hs.c1
  have HS := Lib.hid hs
  have HRS := Lib.hid hres
  clear hs hres
  go_wp2_with (go_at_call 144; refine (fail_yes _ _).mono ?_; rintro e w' ⟨rfl, rfl⟩)
  refine leaves_cons (f := 143) (args := #[.pointer (some ⟨w.heap.size, 0, none⟩)]) (by simp) (by simp [go_sem]) ?_
  refine (catch_err ⟨w.heap.size, 0, none⟩ _ 4 w1 HRS.out.c0 HRS.out.f).mono ?_
  rintro e u' w'' ⟨rfl, rfl, rfl⟩
  have hc := (HRS.out.put 4).c0
  simp [Leaves, settle, results, Try.results92, go_sem, hc]
  exact ⟨w1, hj, rfl⟩

set_option maxHeartbeats 8000000 in
/-- All bytes are read; what was read may not be. -/
theorem run_bad (w : World) (A : Option Addr) (n c : Nat) (R T : Nat) (cr ct : Array Value) (J : World → Prop) (er' : Int) (hne : er' ≠ 0)
    (er : ∀ args w, (callFunc R args).run Try.prog w = .ok (.enter R args) w) (et : ∀ args w, (callFunc T args).run Try.prog w = .ok (.enter T args) w)
    (hread : Calls Try.prog R (#[.agg #[.pointer (some ⟨w.heap.size + 1, 0, none⟩)]] ++ cr) (runW w A n c) fun e w1 => e = .returned (.tuple #[]) ∧ ResAt w1 w.heap.size 0 ∧ SpotAt w1 (w.heap.size + 1) A c n n ∧ J w1)
    (hright : ∀ w1, J w1 → Calls Try.prog T ct w1 fun e w2 => e = .returned (.int .i64 er') ∧ Below w1.heap.size w1 w2) :
    Calls Try.prog 92 #[.slice A n c, .func (.func R) #[] cr, .func (.func T) #[] ct] w fun e w' => e = .returned (.int .i64 4) ∧ ∃ w1 w2, J w1 ∧ Below w1.heap.size w1 w2 ∧ w' = w2.setCell ⟨w.heap.size, 0, none⟩ (.int .i64 4) := by
  have hmf : ∀ (fn : Fn) (first cap : Array Value) (w : World), (Instr.makeFunc fn first cap).run Try.prog w = .ok (.func fn first cap) w := fun _ _ _ _ => rfl
  have HR := Lib.hid hread
  have HT := Lib.hid hright
  clear hread hright
  have hneb : (er' != 0) = true := by simpa using hne
  go_enter_defers Try.func92, Try.ntmps92
  go_wp2_with (fail)
  refine HR.out.mono ?_
  rintro e w1 ⟨rfl, hres, hs, hj⟩
  have d1 := hs.c1
  have HS := Lib.hid hs
  have HRS := Lib.hid hres
  clear hs hres
  go_wp2_with (fail)
  refine (HT.out w1 hj).mono ?_
  rintro e w2 ⟨rfl, hb⟩
  have HS2 := Lib.hid (HS.out.below hb HS.out.lt)
  have hr2 : ResAt w2 w.heap.size 0 := (hb.block _ HRS.out.lt).trans HRS.out
  have HR2 := Lib.hid hr2
  have HBB := Lib.hid hb
  clear hr2 hb
  go_wp2_with (go_at_call 144; refine (fail_yes _ _).mono ?_; rintro e w' ⟨rfl, rfl⟩)
  refine leaves_cons (f := 143) (args := #[.pointer (some ⟨w.heap.size, 0, none⟩)]) (by simp) (by simp [go_sem]) ?_
  refine (catch_err ⟨w.heap.size, 0, none⟩ _ 4 w2 HR2.out.c0 HR2.out.f).mono ?_
  rintro e u' w'' ⟨rfl, rfl, rfl⟩
  have hc := (HR2.out.put 4).c0
  simp [Leaves, settle, results, Try.results92, go_sem, hc]
  exact ⟨w1, hj, w2, HBB.out, rfl⟩

set_option maxHeartbeats 8000000 in
/-- All bytes are read; what was read may be. -/
theorem run_good (w : World) (A : Option Addr) (n c : Nat) (R T : Nat) (cr ct : Array Value) (J : World → Prop)
    (er : ∀ args w, (callFunc R args).run Try.prog w = .ok (.enter R args) w) (et : ∀ args w, (callFunc T args).run Try.prog w = .ok (.enter T args) w)
    (hread : Calls Try.prog R (#[.agg #[.pointer (some ⟨w.heap.size + 1, 0, none⟩)]] ++ cr) (runW w A n c) fun e w1 => e = .returned (.tuple #[]) ∧ ResAt w1 w.heap.size 0 ∧ SpotAt w1 (w.heap.size + 1) A c n n ∧ J w1)
    (hright : ∀ w1, J w1 → Calls Try.prog T ct w1 fun e w2 => e = .returned (.int .i64 0) ∧ Below w1.heap.size w1 w2) :
    Calls Try.prog 92 #[.slice A n c, .func (.func R) #[] cr, .func (.func T) #[] ct] w fun e w' => e = .returned (.int .i64 0) ∧ ∃ w1 w2, J w1 ∧ Below w1.heap.size w1 w2 ∧ w' = w2.setCell ⟨w.heap.size, 0, none⟩ (.int .i64 0) := by
  have hmf : ∀ (fn : Fn) (first cap : Array Value) (w : World), (Instr.makeFunc fn first cap).run Try.prog w = .ok (.func fn first cap) w := fun _ _ _ _ => rfl
  have HR := Lib.hid hread
  have HT := Lib.hid hright
  clear hread hright
  go_enter_defers Try.func92, Try.ntmps92
  go_wp2_with (fail)
  refine HR.out.mono ?_
  rintro e w1 ⟨rfl, hres, hs, hj⟩
  have d1 := hs.c1
  have HS := Lib.hid hs
  have HRS := Lib.hid hres
  clear hs hres
  go_wp2_with (fail)
  refine (HT.out w1 hj).mono ?_
  rintro e w2 ⟨rfl, hb⟩
  have HS2 := Lib.hid (HS.out.below hb HS.out.lt)
  have hr2 : ResAt w2 w.heap.size 0 := (hb.block _ HRS.out.lt).trans HRS.out
  have HR2 := Lib.hid hr2
  have HBB := Lib.hid hb
  have g0 := hr2.c0
  have gf := hr2.f
  clear hr2 hb
  go_wp2_with (go_at_call 144; refine (fail_no _ _).mono ?_; rintro e w' ⟨rfl, rfl⟩)
  refine leaves_cons (f := 143) (args := #[.pointer (some ⟨w.heap.size, 0, none⟩)]) (by simp) (by simp [go_sem]) ?_
  refine (catch_none ⟨w.heap.size, 0, none⟩ _).mono ?_
  rintro e u' w'' ⟨rfl, rfl, rfl⟩
  have hc := (HR2.out.put 0).c0
  simp [Leaves, settle, results, Try.results92, go_sem, hc]
  exact ⟨w1, hj, w2, HBB.out, rfl⟩
end Go.Proofs.Ytmbnjgnmblgjoaa.Man
end

-- Gets
section
/- codec.GetDoc, GetEntry of the given program: what they come to, for all bytes. -/

namespace Go.Proofs.Ytmbnjgnmblgjoaa.Man
open Go.RowKit Go.Proofs.YtmbnjgnmblgjoaaW.PrintWords Go.Proofs.YtmbnjgnmblgjoaaW.PrintLast Go.Proofs.YtmbnjgnmblgjoaaW.PrintMore
set_option linter.unusedVariables false
set_option linter.unusedSimpArgs false
set_option maxRecDepth 100000

/-- A variable that a closure holds. -/
def RowAt (w : World) (V : Nat) (v : Value) : Prop := w.heap[V]? = some (.cells #[v] 22 (0, 0))
theorem RowAt.c0 {w : World} {V : Nat} {v : Value} (k : RowAt w V v) : w.cell? ⟨V, 0, none⟩ = some v := by simp [World.cell?, show w.heap[V]? = _ from k]
theorem RowAt.f {w : World} {V : Nat} {v : Value} (k : RowAt w V v) : w.frozen? ⟨V, 0, none⟩ = false := by simp [World.frozen?, show w.heap[V]? = _ from k]
theorem RowAt.lt {w : World} {V : Nat} {v : Value} (k : RowAt w V v) : V < w.heap.size := (Array.getElem?_eq_some_iff.1 k).1
theorem RowAt.put {w : World} {V : Nat} {v : Value} (k : RowAt w V v) (u : Value) : RowAt (w.setCell ⟨V, 0, none⟩ u) V u := by
  unfold RowAt World.setCell
  simp [Array.getElem?_modify, show w.heap[V]? = _ from k]
theorem heap_set_ne (w : World) (B k j : Nat) (u : Value) (h : j ≠ B) : (w.setCell ⟨B, k, none⟩ u).heap[j]? = w.heap[j]? := Below.heap_setCell w ⟨B, k, none⟩ u j h
theorem TR.C {w : World} {base : Nat} {v : Value} {xs : List K.S111} (h : TR w base v xs) : ∃ A c, v = .slice A xs.length c ∧ xs.length ≤ c ∧ Kd.C K.k111 w A xs.length xs := Kd.R_reads h

theorem spot0 (w : World) (A : Option Addr) (n c : Nat) : SpotAt (runW w A n c) (w.heap.size + 1) A c n 0 := by
  have := World.alloc_heap_new (w.alloc (.cells #[.int .i64 0] 28)) (.cells #[.slice A n c, .int .i64 0] 194)
  rwa [World.size_alloc] at this
theorem res0 (w : World) (A : Option Addr) (n c : Nat) : ResAt (runW w A n c) w.heap.size 0 := (Below.heap_alloc _ _ _ (by simp)).trans (World.alloc_heap_new w _)
theorem runW_below (w : World) (A : Option Addr) (n c : Nat) : Below w.heap.size w (runW w A n c) := ((Below.refl _ _).alloc (Nat.le_refl _) _).alloc (by simp) _
theorem runW_size (w : World) (A : Option Addr) (n c : Nat) : (runW w A n c).heap.size = w.heap.size + 2 := by unfold runW; rw [World.size_alloc, World.size_alloc]
theorem enters_fn {f : Nat} {fn : Func} (hf : Try.prog.funcs[f]? = some fn) (hname : (fn.name == "runtime.NumGoroutine") = false) (hb : fn.body.isSome = true) : ∀ args w, (callFunc f args).run Try.prog w = .ok (.enter f args) w := fun args w => enters_ hf hname hb args w
/-- A world that keeps what is old, but some blocks that are young. -/
theorem below_set_young {w w1 : World} (hb : Below w.heap.size w w1) (B k : Nat) (u : Value) (hB : w.heap.size ≤ B) : Below w.heap.size w (w1.setCell ⟨B, k, none⟩ u) := hb.setCell (p := ⟨B, k, none⟩) hB u

/-! ### An entry -/
section
variable {w : World} {E : Nat} {a0 a1 a2 a3 a4 a5 a6 a7 a9 : Int} {v : Value}
theorem EntC.lt (h : EntC w E a0 a1 a2 a3 a4 a5 a6 a7 v a9) : E < w.heap.size := (Array.getElem?_eq_some_iff.1 h).1
theorem EntC.f (h : EntC w E a0 a1 a2 a3 a4 a5 a6 a7 v a9) (i : Nat) : w.frozen? ⟨E, i, none⟩ = false := by simp [World.frozen?, show w.heap[E]? = _ from h]
theorem EntC.put (h : EntC w E a0 a1 a2 a3 a4 a5 a6 a7 v a9) (i : Nat) (u : Value) {b0 b1 b2 b3 b4 b5 b6 b7 b9 : Int} {v' : Value}
    (he : (#[.int .i64 a0, .int .i64 a1, .int .i64 a2, .int .i64 a3, .int .i64 a4, .int .i64 a5, .int .i64 a6, .int .i64 a7, v, .int .i64 a9] : Array Value).setIfInBounds i u = #[.int .i64 b0, .int .i64 b1, .int .i64 b2, .int .i64 b3, .int .i64 b4, .int .i64 b5, .int .i64 b6, .int .i64 b7, v', .int .i64 b9]) :
    EntC (w.setCell ⟨E, i, none⟩ u) E b0 b1 b2 b3 b4 b5 b6 b7 v' b9 := by
  unfold EntC World.setCell
  unfold EntC at h
  have he2 := congrArg Array.toList he
  simp [Array.getElem?_modify, h]
  simpa using he2
theorem EntC.cells (h : EntC w E a0 a1 a2 a3 a4 a5 a6 a7 v a9) : w.cell? ⟨E, 0, none⟩ = some (.int .i64 a0) ∧ w.cell? ⟨E, 1, none⟩ = some (.int .i64 a1) ∧ w.cell? ⟨E, 2, none⟩ = some (.int .i64 a2) ∧ w.cell? ⟨E, 3, none⟩ = some (.int .i64 a3) ∧ w.cell? ⟨E, 4, none⟩ = some (.int .i64 a4) ∧
    w.cell? ⟨E, 5, none⟩ = some (.int .i64 a5) ∧ w.cell? ⟨E, 6, none⟩ = some (.int .i64 a6) ∧ w.cell? ⟨E, 7, none⟩ = some (.int .i64 a7) ∧ w.cell? ⟨E, 8, none⟩ = some v ∧ w.cell? ⟨E, 9, none⟩ = some (.int .i64 a9) := by
  simp [World.cell?, show w.heap[E]? = _ from h]
end
/-- An entry stored whole. -/
def setEnt (w : World) (E : Nat) (b0 b1 b2 b3 b4 b5 b6 b7 : Int) (u : Value) (b9 : Int) : World :=
  (((((((((w.setCell ⟨E, 0, none⟩ (.int .i64 b0)).setCell ⟨E, 1, none⟩ (.int .i64 b1)).setCell ⟨E, 2, none⟩ (.int .i64 b2)).setCell ⟨E, 3, none⟩ (.int .i64 b3)).setCell ⟨E, 4, none⟩ (.int .i64 b4)).setCell ⟨E, 5, none⟩ (.int .i64 b5)).setCell ⟨E, 6, none⟩ (.int .i64 b6)).setCell ⟨E, 7, none⟩ (.int .i64 b7)).setCell ⟨E, 8, none⟩ u).setCell ⟨E, 9, none⟩ (.int .i64 b9)
theorem EntC.set {w : World} {E : Nat} {a0 a1 a2 a3 a4 a5 a6 a7 a9 : Int} {v : Value} (h : EntC w E a0 a1 a2 a3 a4 a5 a6 a7 v a9) (b0 b1 b2 b3 b4 b5 b6 b7 : Int) (u : Value) (b9 : Int) : EntC (setEnt w E b0 b1 b2 b3 b4 b5 b6 b7 u b9) E b0 b1 b2 b3 b4 b5 b6 b7 u b9 :=
  (((((((((h.put 0 (.int .i64 b0) rfl).put 1 (.int .i64 b1) rfl).put 2 (.int .i64 b2) rfl).put 3 (.int .i64 b3) rfl).put 4 (.int .i64 b4) rfl).put 5 (.int .i64 b5) rfl).put 6 (.int .i64 b6) rfl).put 7 (.int .i64 b7) rfl).put 8 u rfl).put 9 (.int .i64 b9) rfl
theorem setEnt_ne (w : World) (E j : Nat) (b0 b1 b2 b3 b4 b5 b6 b7 : Int) (u : Value) (b9 : Int) (h : j ≠ E) : (setEnt w E b0 b1 b2 b3 b4 b5 b6 b7 u b9).heap[j]? = w.heap[j]? := by
  unfold setEnt
  rw [heap_set_ne _ _ _ _ _ h, heap_set_ne _ _ _ _ _ h, heap_set_ne _ _ _ _ _ h, heap_set_ne _ _ _ _ _ h, heap_set_ne _ _ _ _ _ h, heap_set_ne _ _ _ _ _ h, heap_set_ne _ _ _ _ _ h, heap_set_ne _ _ _ _ _ h, heap_set_ne _ _ _ _ _ h, heap_set_ne _ _ _ _ _ h]
theorem TR.setEnt {w : World} {base E : Nat} {v : Value} {xs : List K.S111} (h : TR w base v xs) (hE : E < base) (b0 b1 b2 b3 b4 b5 b6 b7 : Int) (u : Value) (b9 : Int) : TR (setEnt w E b0 b1 b2 b3 b4 b5 b6 b7 u b9) base v xs :=
  (((((((((h.set hE 0 _).set hE 1 _).set hE 2 _).set hE 3 _).set hE 4 _).set hE 5 _).set hE 6 _).set hE 7 _).set hE 8 _).set hE 9 _
theorem below_setEnt {w w1 : World} (hb : Below w.heap.size w w1) (E : Nat) (hE : w.heap.size ≤ E) (b0 b1 b2 b3 b4 b5 b6 b7 : Int) (u : Value) (b9 : Int) : Below w.heap.size w (setEnt w1 E b0 b1 b2 b3 b4 b5 b6 b7 u b9) :=
  below_set_young (below_set_young (below_set_young (below_set_young (below_set_young (below_set_young (below_set_young (below_set_young (below_set_young (below_set_young hb E 0 _ hE) E 1 _ hE) E 2 _ hE) E 3 _ hE) E 4 _ hE) E 5 _ hE) E 6 _ hE) E 7 _ hE) E 8 _ hE) E 9 _ hE

set_option maxHeartbeats 8000000 in
theorem getEnt1_err {w0 w : World} {P V c p : Nat} {A : Option Addr} {b : List Int} (hC : Kd.C (Kd.int .u8) w0 A b.length b) (hc : b.length ≤ c) (hB : areBytesN b = true) (hb : Below w0.heap.size w0 w) (hP : w0.heap.size ≤ P) (k : SpotAt w P A c b.length p) (hp : p ≤ b.length) (f : Int) (hres : rent (b.drop p) = .error f) :
    Calls Try.prog 93 (#[.agg #[.pointer (some ⟨P, 0, none⟩)]] ++ #[.pointer (some ⟨V, 0, none⟩)]) w fun e w' => e = .panicked (errCh f) ∧ w.grownBy w' (some P) := by
  have hPl := k.lt
  have hbx : Below w.heap.size w (w.alloc (.cells #[.pointer (some ⟨P, 0, none⟩)] 140)) := (Below.refl _ _).alloc (Nat.le_refl _) _
  have hd := sent_is hC hc hB (hb.trans (hbx.mono hb.size)) hP (k.below hbx hPl) hp
  rw [hres] at hd
  have HD := Lib.hid hd
  have HX := Lib.hid (grown_of_below hbx (some P))
  clear hC hB hb k hd hres hbx
  show Calls _ _ #[.agg #[.pointer (some ⟨P, 0, none⟩)], .pointer (some ⟨V, 0, none⟩)] _ _
  go_enter Try.func93, Try.ntmps93
  go_wp2_with (go_at_call 94; refine HD.out.mono ?_; rintro e w1 h1; obtain ⟨rfl, hg⟩ := h1.err_inv; have HG := Lib.hid (HX.out.trans hg); clear h1 hg)
  exact ⟨rfl, rfl, HG.out⟩

set_option maxHeartbeats 8000000 in
theorem getEnt1_ok {w0 w : World} {P V c p : Nat} {A : Option Addr} {b : List Int} (hC : Kd.C (Kd.int .u8) w0 A b.length b) (hc : b.length ≤ c) (hB : areBytesN b = true) (hb : Below w0.heap.size w0 w) (hP : w0.heap.size ≤ P) (k : SpotAt w P A c b.length p) (hp : p ≤ b.length) (x : K.S26) (r : List Int) (hres : rent (b.drop p) = .ok (x, r))
    {a0 a1 a2 a3 a4 a5 a6 a7 a9 : Int} {v : Value} (kv : EntC w V a0 a1 a2 a3 a4 a5 a6 a7 v a9) (hVP : V ≠ P) :
    Calls Try.prog 93 (#[.agg #[.pointer (some ⟨P, 0, none⟩)]] ++ #[.pointer (some ⟨V, 0, none⟩)]) w fun e w' => e = .returned (.tuple #[]) ∧ ∃ u w2, w' = setEnt w2 V x.f0 x.f1 x.f2.f0 x.f2.f1 x.f2.f2 x.f2.f3 x.f2.f4 x.f2.f5 u x.f2.f7 ∧ EntC w2 V a0 a1 a2 a3 a4 a5 a6 a7 v a9 ∧ TR w2 w.heap.size u x.f2.f6 ∧ SpotAt w2 P A c b.length (b.length - r.length) ∧ w.grownBy w2 (some P) := by
  have hPl := k.lt
  have hbx : Below w.heap.size w (w.alloc (.cells #[.pointer (some ⟨P, 0, none⟩)] 140)) := (Below.refl _ _).alloc (Nat.le_refl _) _
  have hd := sent_is hC hc hB (hb.trans (hbx.mono hb.size)) hP (k.below hbx hPl) hp
  rw [hres] at hd
  have HD := Lib.hid hd
  have HX := Lib.hid (grown_of_below hbx (some P))
  have HZ := Lib.hid hbx.size
  have HV := Lib.hid kv
  clear hC hB hb k hd hres hbx kv
  show Calls _ _ #[.agg #[.pointer (some ⟨P, 0, none⟩)], .pointer (some ⟨V, 0, none⟩)] _ _
  go_enter Try.func93, Try.ntmps93
  go_wp2_with (go_at_call 94; refine HD.out.mono ?_; rintro e w1 h1; obtain ⟨v1, rfl, ⟨u, rfl, ht⟩, hk, hg⟩ := h1.ok_inv; obtain ⟨A1, k1, rfl, _, _⟩ := ht.C; have HT := Lib.hid (Kd.R_lower ht HZ.out); have HK := Lib.hid hk; have HG := Lib.hid (HX.out.trans hg); have hv1 : EntC w1 V a0 a1 a2 a3 a4 a5 a6 a7 v a9 := (HG.out.block _ HV.out.lt (by intro e; exact hVP (Option.some.inj e))).trans HV.out; have HV1 := Lib.hid hv1; obtain ⟨v0, v1, v2, v3, v4, v5, v6, v7, v8, v9⟩ := hv1.cells; have vf := hv1.f; clear h1 ht hk hg hv1)
  go_end0
  exact ⟨rfl, _, w1, rfl, HV1.out, HT.out, HK.out, HG.out⟩

set_option maxHeartbeats 8000000 in
theorem getEnt2_is {w : World} {V base : Nat} {u : Value} {x : K.S26} (kv : EntC w V x.f0 x.f1 x.f2.f0 x.f2.f1 x.f2.f2 x.f2.f3 x.f2.f4 x.f2.f5 u x.f2.f7) (ht : TR w base u x.f2.f6) :
    Calls Try.prog 95 #[.pointer (some ⟨V, 0, none⟩)] w fun e w' => e = .returned (.int .i64 (entryE x)) ∧ Below w.heap.size w w' := by
  obtain ⟨A1, k1, rfl, hk1, hC⟩ := ht.C
  have HD := Lib.hid (entry_is x A1 k1 w hC hk1)
  obtain ⟨v0, v1, v2, v3, v4, v5, v6, v7, v8, v9⟩ := kv.cells
  clear kv ht hC
  go_enter Try.func95, Try.ntmps95
  go_wp2_with (go_at_call 87; refine HD.out.mono ?_; rintro e w1 ⟨rfl, hb⟩; have HB := Lib.hid hb; clear hb)
  go_ret
  exact ⟨rfl, HB.out⟩
end Go.Proofs.Ytmbnjgnmblgjoaa.Man
end

-- GetEnt
section
/- codec.GetEntry of the given program: what it comes to, for all bytes. Printed by wip/tools/gen_getent.py. -/

namespace Go.Proofs.Ytmbnjgnmblgjoaa.Man
open Go.RowKit Go.Proofs.YtmbnjgnmblgjoaaW.PrintWords Go.Proofs.YtmbnjgnmblgjoaaW.PrintLast Go.Proofs.YtmbnjgnmblgjoaaW.PrintMore
set_option linter.unusedVariables false
set_option linter.unusedSimpArgs false
set_option maxRecDepth 100000

theorem EntC.ne {w w1 : World} {E : Nat} {a0 a1 a2 a3 a4 a5 a6 a7 a9 : Int} {v : Value} (h : EntC w E a0 a1 a2 a3 a4 a5 a6 a7 v a9) (e : w1.heap[E]? = w.heap[E]?) : EntC w1 E a0 a1 a2 a3 a4 a5 a6 a7 v a9 := e.trans h

set_option maxHeartbeats 16000000 in
theorem getEntry_is (w : World) (A : Option Addr) (c : Nat) (b : List Int) (hC : Kd.C (Kd.int .u8) w A b.length b) (hc : b.length ≤ c) (hB : areBytesN b = true) :
    Calls Try.prog 23 #[.slice A b.length c] w fun e w' => ∃ r, e = .returned (.tuple #[r, .int .i64 (getEntryF b).2]) ∧ EntR w.heap.size (getEntryF b).1 r w' ∧ Below w.heap.size w w' := by
  have hmf : ∀ (fn : Fn) (first cap : Array Value) (w : World), (Instr.makeFunc fn first cap).run Try.prog w = .ok (.func fn first cap) w := fun _ _ _ _ => rfl
  obtain ⟨wV, hwV⟩ : ∃ wV, wV = (w.alloc (.cells #[.int .i64 0, .int .i64 0, .int .i64 0, .int .i64 0, .int .i64 0, .int .i64 0, .int .i64 0, .int .i64 0, .slice none 0 0, .int .i64 0] 26)).alloc (.cells #[.int .i64 0, .int .i64 0, .int .i64 0, .int .i64 0, .int .i64 0, .int .i64 0, .int .i64 0, .int .i64 0, .slice none 0 0, .int .i64 0] 26) := ⟨_, rfl⟩
  have hbV : Below w.heap.size w wV := by rw [hwV]; exact ((Below.refl _ _).alloc (Nat.le_refl _) _).alloc (by simp) _
  have hzV : wV.heap.size = w.heap.size + 2 := by rw [hwV, World.size_alloc, World.size_alloc]
  have hS : EntC wV w.heap.size 0 0 0 0 0 0 0 0 (.slice none 0 0) 0 := by rw [hwV]; exact (Below.heap_alloc _ _ _ (by simp)).trans (World.alloc_heap_new w _)
  have hV : EntC wV (w.heap.size + 1) 0 0 0 0 0 0 0 0 (.slice none 0 0) 0 := by rw [hwV]; have := World.alloc_heap_new (w.alloc (.cells #[.int .i64 0, .int .i64 0, .int .i64 0, .int .i64 0, .int .i64 0, .int .i64 0, .int .i64 0, .int .i64 0, .slice none 0 0, .int .i64 0] 26)) (.cells #[.int .i64 0, .int .i64 0, .int .i64 0, .int .i64 0, .int .i64 0, .int .i64 0, .int .i64 0, .int .i64 0, .slice none 0 0, .int .i64 0] 26); rwa [World.size_alloc] at this
  have hbr := runW_below wV A b.length c
  have hbR : Below w.heap.size w (runW wV A b.length c) := hbV.trans (hbr.mono hbV.size)
  have hrz := runW_size wV A b.length c
  have hVr : EntC (runW wV A b.length c) (w.heap.size + 1) 0 0 0 0 0 0 0 0 (.slice none 0 0) 0 := hV.ne (hbr.block _ hV.lt)
  have hSr : EntC (runW wV A b.length c) w.heap.size 0 0 0 0 0 0 0 0 (.slice none 0 0) 0 := hS.ne (hbr.block _ hS.lt)
  have hs := spot0 wV A b.length c
  have e1 := enters_fn Try.func93 (by kernel_rfl) rfl
  have e2 := enters_fn Try.func95 (by kernel_rfl) rfl
  have hR0 : ∀ {w1 : World}, (runW wV A b.length c).grownBy w1 (some (wV.heap.size + 1)) → ResAt w1 wV.heap.size 0 := fun hg => (hg.block _ (by rw [hrz]; omega) (by intro e; have := Option.some.inj e; omega)).trans (res0 wV A b.length c)
  have hS0 : ∀ {w1 : World}, (runW wV A b.length c).grownBy w1 (some (wV.heap.size + 1)) → EntC w1 w.heap.size 0 0 0 0 0 0 0 0 (.slice none 0 0) 0 := fun hg => hSr.ne (hg.block _ (by rw [hrz]; omega) (by intro e; have := Option.some.inj e; omega))
  have hbG : ∀ {w1 : World}, (runW wV A b.length c).grownBy w1 (some (wV.heap.size + 1)) → Below w.heap.size w w1 := fun hg => below_of_grown hbR hg (by omega)
  unfold getEntryF
  rcases hres : rent b with f | ⟨x, r⟩
  · have hd := getEnt1_err (V := w.heap.size + 1) hC hc hB hbR (by omega) hs (Nat.zero_le _) f (by rw [List.drop_zero]; exact hres)
    have hrun := run_err wV A b.length c 93 95 #[.pointer (some ⟨w.heap.size + 1, 0, none⟩)] #[.pointer (some ⟨w.heap.size + 1, 0, none⟩)] f (fun w1 => EntC w1 w.heap.size 0 0 0 0 0 0 0 0 (.slice none 0 0) 0 ∧ Below w.heap.size w w1) e1
      (hd.mono fun e w1 ⟨h1, h2⟩ => ⟨h1, hR0 h2, hS0 h2, hbG h2⟩)
    have hne := ErrNz.ent b f hres
    have hneb : (f != 0) = true := by simpa using hne
    rw [hzV, hwV] at hrun
    have HR := Lib.hid hrun
    unfold allF
    simp only
    have HZ : Hid (w.heap.size ≤ w.heap.size + 2) := Lib.hid (by omega)
    clear hC hB hwV hbV hzV hS hV hbr hbR hrz hVr hSr hs e1 e2 hR0 hS0 hbG hres hd hrun hne
    go_enter Try.func23, Try.ntmps23
    go_upto_region 4 with (go_at_call 92; refine HR.out.mono ?_; rintro e w1 ⟨rfl, w2, ⟨hs1, hj⟩, rfl⟩; have HJ := Lib.hid (below_set_young hj (w.heap.size + 2) 0 (.int .i64 f) HZ.out); have HS1 : Hid (EntC (w2.setCell ⟨w.heap.size + 2, 0, none⟩ (.int .i64 f)) w.heap.size 0 0 0 0 0 0 0 0 (.slice none 0 0) 0) := Lib.hid (hs1.ne (heap_set_ne w2 _ 0 _ _ (by omega))); obtain ⟨v0, v1, v2, v3, v4, v5, v6, v7, v8, v9⟩ := HS1.out.cells; have vf := HS1.out.f; clear hj hs1)
    go_wp2
    obtain ⟨z0, z1, z2, z3, z4, z5, z6, z7, z8, z9⟩ := (HS1.out.set 0 0 0 0 0 0 0 0 (.slice none 0 0) 0).cells
    unfold setEnt at z0 z1 z2 z3 z4 z5 z6 z7 z8 z9
    refine bodyPost_ret (v := .tuple #[.agg #[.int .i64 0, .int .i64 0, .int .i64 0, .int .i64 0, .int .i64 0, .int .i64 0, .int .i64 0, .int .i64 0, .slice none 0 0, .int .i64 0], .int .i64 f]) (by simp [results, Try.results23, go_sem, z0, z1, z2, z3, z4, z5, z6, z7, z8, z9]) rfl ?_
    exact ⟨_, rfl, ⟨_, rfl, Kd.R_nil _ _ _ _ _⟩, below_setEnt HJ.out w.heap.size (Nat.le_refl _) 0 0 0 0 0 0 0 0 (.slice none 0 0) 0⟩
  · have hd := getEnt1_ok hC hc hB hbR (by omega) hs (Nat.zero_le _) x r (by rw [List.drop_zero]; exact hres) hVr (by omega)
    have hbr1 := (rent_inv hB hres).1
    have hrl : r.length ≤ b.length := by rw [hbr1, List.length_append]; omega
    have hread : Calls Try.prog 93 (#[.agg #[.pointer (some ⟨wV.heap.size + 1, 0, none⟩)]] ++ #[.pointer (some ⟨w.heap.size + 1, 0, none⟩)]) (runW wV A b.length c) fun e w1 => e = .returned (.tuple #[]) ∧ ResAt w1 wV.heap.size 0 ∧ SpotAt w1 (wV.heap.size + 1) A c b.length (b.length - r.length) ∧ (∃ u, EntC w1 (w.heap.size + 1) x.f0 x.f1 x.f2.f0 x.f2.f1 x.f2.f2 x.f2.f3 x.f2.f4 x.f2.f5 u x.f2.f7 ∧ TR w1 (w.heap.size + 4) u x.f2.f6 ∧ EntC w1 w.heap.size 0 0 0 0 0 0 0 0 (.slice none 0 0) 0 ∧ Below w.heap.size w w1) := by
      refine hd.mono ?_
      rintro e w1 ⟨rfl, u, w2, rfl, hv2, ht, hk, hg⟩
      refine ⟨rfl, (setEnt_ne w2 _ _ _ _ _ _ _ _ _ _ _ _ (by omega)).trans (hR0 hg), (setEnt_ne w2 _ _ _ _ _ _ _ _ _ _ _ _ (by omega)).trans hk, u, hv2.set _ _ _ _ _ _ _ _ _ _, Kd.R_lower (ht.setEnt (by rw [hrz]; omega) _ _ _ _ _ _ _ _ _ _) (by rw [hrz]; omega), (hS0 hg).ne (setEnt_ne w2 _ _ _ _ _ _ _ _ _ _ _ _ (by omega)), below_setEnt (hbG hg) _ (Nat.le_succ _) _ _ _ _ _ _ _ _ _ _⟩
    have hright : ∀ w1, (∃ u, EntC w1 (w.heap.size + 1) x.f0 x.f1 x.f2.f0 x.f2.f1 x.f2.f2 x.f2.f3 x.f2.f4 x.f2.f5 u x.f2.f7 ∧ TR w1 (w.heap.size + 4) u x.f2.f6 ∧ EntC w1 w.heap.size 0 0 0 0 0 0 0 0 (.slice none 0 0) 0 ∧ Below w.heap.size w w1) → Calls Try.prog 95 #[.pointer (some ⟨w.heap.size + 1, 0, none⟩)] w1 fun e w2 => e = .returned (.int .i64 (entryE x)) ∧ Below w1.heap.size w1 w2 := by
      rintro w1 ⟨u, kv, ht, _⟩
      exact getEnt2_is kv ht
    unfold allF
    simp only
    by_cases hr : 0 < r.length
    · rw [if_pos (.inl hr)]
      have hrun := run_left wV A b.length c (b.length - r.length) 93 95 #[.pointer (some ⟨w.heap.size + 1, 0, none⟩)] #[.pointer (some ⟨w.heap.size + 1, 0, none⟩)] _ (by omega) e1 hread
      rw [hzV, hwV] at hrun
      have HR := Lib.hid hrun
      have HZ : Hid (w.heap.size ≤ w.heap.size + 2) := Lib.hid (by omega)
      clear hC hB hwV hbV hzV hS hV hbr hbR hrz hVr hSr hs e1 e2 hR0 hS0 hbG hres hd hrun hread hright hbr1
      go_enter Try.func23, Try.ntmps23
      go_upto_region 4 with (go_at_call 92; refine HR.out.mono ?_; rintro e w1 ⟨rfl, w2, ⟨u, _, _, hs1, hj⟩, rfl⟩; have HJ := Lib.hid (below_set_young hj (w.heap.size + 2) 0 (.int .i64 4) HZ.out); have HS1 : Hid (EntC (w2.setCell ⟨w.heap.size + 2, 0, none⟩ (.int .i64 4)) w.heap.size 0 0 0 0 0 0 0 0 (.slice none 0 0) 0) := Lib.hid (hs1.ne (heap_set_ne w2 _ 0 _ _ (by omega))); obtain ⟨v0, v1, v2, v3, v4, v5, v6, v7, v8, v9⟩ := HS1.out.cells; have vf := HS1.out.f; clear hj hs1)
      go_wp2
      obtain ⟨z0, z1, z2, z3, z4, z5, z6, z7, z8, z9⟩ := (HS1.out.set 0 0 0 0 0 0 0 0 (.slice none 0 0) 0).cells
      unfold setEnt at z0 z1 z2 z3 z4 z5 z6 z7 z8 z9
      refine bodyPost_ret (v := .tuple #[.agg #[.int .i64 0, .int .i64 0, .int .i64 0, .int .i64 0, .int .i64 0, .int .i64 0, .int .i64 0, .int .i64 0, .slice none 0 0, .int .i64 0], .int .i64 4]) (by simp [results, Try.results23, go_sem, z0, z1, z2, z3, z4, z5, z6, z7, z8, z9]) rfl ?_
      exact ⟨_, rfl, ⟨_, rfl, Kd.R_nil _ _ _ _ _⟩, below_setEnt HJ.out w.heap.size (Nat.le_refl _) 0 0 0 0 0 0 0 0 (.slice none 0 0) 0⟩
    · have hr0 : b.length - r.length = b.length := by omega
      rw [hr0] at hread
      by_cases h0 : entryE x = 0
      · rw [if_neg (by omega)]
        rw [h0] at hright
        have hrun := run_good wV A b.length c 93 95 #[.pointer (some ⟨w.heap.size + 1, 0, none⟩)] #[.pointer (some ⟨w.heap.size + 1, 0, none⟩)] _ e1 e2 hread hright
        rw [hzV, hwV] at hrun
        have HR := Lib.hid hrun
        have HZ : Hid (w.heap.size ≤ w.heap.size + 2) := Lib.hid (by omega)
        clear hC hB hwV hbV hzV hS hV hbr hbR hrz hVr hSr hs e1 e2 hR0 hS0 hbG hres hd hrun hread hright hbr1 hr hr0 h0
        go_enter Try.func23, Try.ntmps23
        go_upto_region 5 with (go_at_call 92; refine HR.out.mono ?_; rintro e w1 ⟨rfl, w2, w3, ⟨u, hv, ht, hs1, hj⟩, hb3, rfl⟩; obtain ⟨A1, k1, rfl, _, _⟩ := ht.C; have HJ := Lib.hid (below_set_young (hj.trans (hb3.mono hj.size)) (w.heap.size + 2) 0 (.int .i64 0) HZ.out); have HV3 : Hid (EntC (w3.setCell ⟨w.heap.size + 2, 0, none⟩ (.int .i64 0)) (w.heap.size + 1) x.f0 x.f1 x.f2.f0 x.f2.f1 x.f2.f2 x.f2.f3 x.f2.f4 x.f2.f5 (.slice A1 x.f2.f6.length k1) x.f2.f7) := Lib.hid (hv.ne ((heap_set_ne w3 _ 0 _ _ (by omega)).trans (hb3.block _ hv.lt))); have HS3 : Hid (EntC (w3.setCell ⟨w.heap.size + 2, 0, none⟩ (.int .i64 0)) w.heap.size 0 0 0 0 0 0 0 0 (.slice none 0 0) 0) := Lib.hid (hs1.ne ((heap_set_ne w3 _ 0 _ _ (by omega)).trans (hb3.block _ hs1.lt))); have HT : Hid (TR (w3.setCell ⟨w.heap.size + 2, 0, none⟩ (.int .i64 0)) (w.heap.size + 4) (.slice A1 x.f2.f6.length k1) x.f2.f6) := Lib.hid (TR.set (Kd.R_below ht hb3) (E := w.heap.size + 2) (by omega) 0 _); clear hv ht hj hb3 hs1)
        obtain ⟨w4, hw4⟩ : ∃ w4, w3.setCell ⟨w.heap.size + 2, 0, none⟩ (.int .i64 0) = w4 := ⟨_, rfl⟩
        rw [hw4] at HJ HV3 HS3 HT ⊢
        clear hw4
        obtain ⟨u0, u1, u2, u3, u4, u5, u6, u7, u8, u9⟩ := HV3.out.cells
        obtain ⟨s0, s1, s2, s3, s4, s5, s6, s7, s8, s9⟩ := HS3.out.cells
        have sf := HS3.out.f
        go_wp2
        obtain ⟨z0, z1, z2, z3, z4, z5, z6, z7, z8, z9⟩ := (HS3.out.set x.f0 x.f1 x.f2.f0 x.f2.f1 x.f2.f2 x.f2.f3 x.f2.f4 x.f2.f5 (.slice A1 x.f2.f6.length k1) x.f2.f7).cells
        unfold setEnt at z0 z1 z2 z3 z4 z5 z6 z7 z8 z9
        refine bodyPost_ret (v := .tuple #[.agg #[.int .i64 x.f0, .int .i64 x.f1, .int .i64 x.f2.f0, .int .i64 x.f2.f1, .int .i64 x.f2.f2, .int .i64 x.f2.f3, .int .i64 x.f2.f4, .int .i64 x.f2.f5, .slice A1 x.f2.f6.length k1, .int .i64 x.f2.f7], .int .i64 0]) (by simp [results, Try.results23, go_sem, z0, z1, z2, z3, z4, z5, z6, z7, z8, z9]) rfl ?_
        exact ⟨_, rfl, ⟨_, rfl, Kd.R_lower (HT.out.setEnt (E := w.heap.size) (by omega) _ _ _ _ _ _ _ _ _ _) (by omega)⟩, below_setEnt HJ.out w.heap.size (Nat.le_refl _) x.f0 x.f1 x.f2.f0 x.f2.f1 x.f2.f2 x.f2.f3 x.f2.f4 x.f2.f5 (.slice A1 x.f2.f6.length k1) x.f2.f7⟩
      · rw [if_pos (.inr h0)]
        have hrun := run_bad wV A b.length c 93 95 #[.pointer (some ⟨w.heap.size + 1, 0, none⟩)] #[.pointer (some ⟨w.heap.size + 1, 0, none⟩)] _ (entryE x) h0 e1 e2 hread hright
        rw [hzV, hwV] at hrun
        have HR := Lib.hid hrun
        have HZ : Hid (w.heap.size ≤ w.heap.size + 2) := Lib.hid (by omega)
        clear hC hB hwV hbV hzV hS hV hbr hbR hrz hVr hSr hs e1 e2 hR0 hS0 hbG hres hd hrun hread hright hbr1 hr hr0 h0
        go_enter Try.func23, Try.ntmps23
        go_upto_region 4 with (go_at_call 92; refine HR.out.mono ?_; rintro e w1 ⟨rfl, w2, w3, ⟨u, _, _, hs0, hj0⟩, hb3, rfl⟩; have hj := hj0.trans (hb3.mono hj0.size); have hs1 := hs0.ne (hb3.block _ hs0.lt); have HJ := Lib.hid (below_set_young hj (w.heap.size + 2) 0 (.int .i64 4) HZ.out); have HS1 : Hid (EntC (w3.setCell ⟨w.heap.size + 2, 0, none⟩ (.int .i64 4)) w.heap.size 0 0 0 0 0 0 0 0 (.slice none 0 0) 0) := Lib.hid (hs1.ne (heap_set_ne w3 _ 0 _ _ (by omega))); obtain ⟨v0, v1, v2, v3, v4, v5, v6, v7, v8, v9⟩ := HS1.out.cells; have vf := HS1.out.f; clear hj hs1)
        go_wp2
        obtain ⟨z0, z1, z2, z3, z4, z5, z6, z7, z8, z9⟩ := (HS1.out.set 0 0 0 0 0 0 0 0 (.slice none 0 0) 0).cells
        unfold setEnt at z0 z1 z2 z3 z4 z5 z6 z7 z8 z9
        refine bodyPost_ret (v := .tuple #[.agg #[.int .i64 0, .int .i64 0, .int .i64 0, .int .i64 0, .int .i64 0, .int .i64 0, .int .i64 0, .int .i64 0, .slice none 0 0, .int .i64 0], .int .i64 4]) (by simp [results, Try.results23, go_sem, z0, z1, z2, z3, z4, z5, z6, z7, z8, z9]) rfl ?_
        exact ⟨_, rfl, ⟨_, rfl, Kd.R_nil _ _ _ _ _⟩, below_setEnt HJ.out w.heap.size (Nat.le_refl _) 0 0 0 0 0 0 0 0 (.slice none 0 0) 0⟩
end Go.Proofs.Ytmbnjgnmblgjoaa.Man
end

-- ReadMsg
section
/- codec's reader: a message. Printed by wip/tools/gen_readmsg.py. -/

namespace Go.Proofs.Ytmbnjgnmblgjoaa.Man
open Go.RowKit Go.Proofs.YtmbnjgnmblgjoaaW.PrintWords Go.Proofs.YtmbnjgnmblgjoaaW.PrintLast Go.Proofs.YtmbnjgnmblgjoaaW.PrintMore
set_option linter.unusedVariables false
set_option linter.unusedSimpArgs false
set_option maxRecDepth 100000

/-- A row of entries of the call's own. -/
abbrev ER (w : World) (base : Nat) (v : Value) (xs : List K.S26) : Prop := Kd.R K.k26 26 w base (fun _ => True) v xs
theorem info_ent : (Try.prog.info? 26).map (fun i => (i.zero, i.size, i.bytes)) = some (some (.agg #[.int .i64 0, .int .i64 0, .int .i64 0, .int .i64 0, .int .i64 0, .int .i64 0, .int .i64 0, .int .i64 0, .slice none 0 0, .int .i64 0]), 10, 96) := by kernel_rfl
theorem ER.grown {w w1 : World} {base P : Nat} {v : Value} {xs : List K.S26} (h : ER w base v xs) (hg : w.grownBy w1 (some P)) (hP : P < base) : ER w1 base v xs :=
  Kd.R_mono (Kd.R_grown (Kd.R_bound h) hg (fun j hj e => by have h1 := hj.2.1; have h2 := Option.some.inj e; omega)) (fun _ _ => trivial)
theorem ER.set {w : World} {base E : Nat} {v : Value} {xs : List K.S26} (h : ER w base v xs) (hE : E < base) (k : Nat) (u : Value) : ER (w.setCell ⟨E, k, none⟩ u) base v xs := ER.grown h (grownBy_set w E k u (World.grownBy.refl w _)) hE
theorem ER.C {w : World} {base : Nat} {v : Value} {xs : List K.S26} (h : ER w base v xs) : ∃ A c, v = .slice A xs.length c ∧ xs.length ≤ c ∧ Kd.C K.k26 w A xs.length xs := Kd.R_reads h
theorem ER.lt {w : World} {base j : Nat} {v : Value} {xs : List K.S26} (h : ER w base v xs) (hj : v.ownBlock = some j) : j < w.heap.size := ((Kd.R_bound h).1 j hj).2.2.1
theorem TR.tight {w : World} {base : Nat} {v : Value} {xs : List K.S111} (h : TR w base v xs) : Kd.R K.k111 111 w base (fun j => some j = v.ownBlock) v xs := Kd.R_tight rfl h
/-- What is older than w stays, but two blocks. -/
structure Kp2 (w W : World) (P V : Nat) : Prop where
  os : W.os = w.os
  tape : W.tape = w.tape
  output : W.output = w.output
  size : w.heap.size ≤ W.heap.size
  block : ∀ j, j < w.heap.size → j ≠ P → j ≠ V → W.heap[j]? = w.heap[j]?
theorem Kp2.refl (w : World) (P V : Nat) : Kp2 w w P V := ⟨rfl, rfl, rfl, Nat.le_refl _, fun _ _ _ _ => rfl⟩
theorem Kp2.num {w W W' : World} {P V : Nat} (h : Kp2 w W P V) (hg : W.grownBy W' (some P)) : Kp2 w W' P V :=
  ⟨hg.os.trans h.os, hg.tape.trans h.tape, hg.output.trans h.output, Nat.le_trans h.size hg.size, fun j hj h1 h2 => (hg.block j (Nat.lt_of_lt_of_le hj h.size) (fun e => h1 (Option.some.inj e))).trans (h.block j hj h1 h2)⟩
theorem Kp2.below {w W W' : World} {P V m : Nat} (h : Kp2 w W P V) (hb : Below m W W') (hm : w.heap.size ≤ m) : Kp2 w W' P V :=
  ⟨hb.os.trans h.os, hb.tape.trans h.tape, hb.output.trans h.output, Nat.le_trans h.size hb.size, fun j hj h1 h2 => (hb.block j (by omega)).trans (h.block j hj h1 h2)⟩
theorem Kp2.set {w W : World} {P V : Nat} (h : Kp2 w W P V) (k : Nat) (u : Value) : Kp2 w (W.setCell ⟨V, k, none⟩ u) P V :=
  ⟨h.os, h.tape, h.output, by simpa [World.setCell] using h.size, fun j hj h1 h2 => (heap_set_ne W V k j u h2).trans (h.block j hj h1 h2)⟩
/-- A message's block. -/
def MsgC (w : World) (V : Nat) (a0 a1 a2 : Int) (v : Value) : Prop := w.heap[V]? = some (.cells #[.int .i64 a0, .int .i64 a1, .int .i64 a2, v] 71 (0, 0))
theorem MsgC.lt {w : World} {V : Nat} {a0 a1 a2 : Int} {v : Value} (h : MsgC w V a0 a1 a2 v) : V < w.heap.size := (Array.getElem?_eq_some_iff.1 h).1
theorem MsgC.cells {w : World} {V : Nat} {a0 a1 a2 : Int} {v : Value} (h : MsgC w V a0 a1 a2 v) : w.cell? ⟨V, 0, none⟩ = some (.int .i64 a0) ∧ w.cell? ⟨V, 1, none⟩ = some (.int .i64 a1) ∧ w.cell? ⟨V, 2, none⟩ = some (.int .i64 a2) ∧ w.cell? ⟨V, 3, none⟩ = some v := by simp [World.cell?, show w.heap[V]? = _ from h]
theorem MsgC.f {w : World} {V : Nat} {a0 a1 a2 : Int} {v : Value} (h : MsgC w V a0 a1 a2 v) (i : Nat) : w.frozen? ⟨V, i, none⟩ = false := by simp [World.frozen?, show w.heap[V]? = _ from h]
theorem MsgC.put {w : World} {V : Nat} {a0 a1 a2 b0 b1 b2 : Int} {v v' : Value} (h : MsgC w V a0 a1 a2 v) (i : Nat) (u : Value) (he : (#[.int .i64 a0, .int .i64 a1, .int .i64 a2, v] : Array Value).setIfInBounds i u = #[.int .i64 b0, .int .i64 b1, .int .i64 b2, v']) : MsgC (w.setCell ⟨V, i, none⟩ u) V b0 b1 b2 v' := by
  unfold MsgC World.setCell
  unfold MsgC at h
  have he2 := congrArg Array.toList he
  simp [Array.getElem?_modify, h]
  simpa using he2
/-- What a reading of a message stands at. -/
structure MgS (w W : World) (P V : Nat) (A : Option Addr) (c n q : Nat) (a0 a1 a2 : Int) (v : Value) : Prop where
  spot : SpotAt W P A c n q
  ptr : PtrAt W w.heap.size P
  msg : MsgC W V a0 a1 a2 v
  kp : Kp2 w W P V
section
variable {w W W' : World} {P V c n q q' m : Nat} {A : Option Addr} {a0 a1 a2 b0 b1 b2 : Int} {v v' : Value}
theorem MgS.num (h : MgS w W P V A c n q a0 a1 a2 v) (hP : P < w.heap.size) (hVP : V ≠ P) (hk : SpotAt W' P A c n q') (hg : W.grownBy W' (some P)) : MgS w W' P V A c n q' a0 a1 a2 v :=
  ⟨hk, h.ptr.grown hg hP, (hg.block _ h.msg.lt (fun e => hVP (Option.some.inj e))).trans h.msg, h.kp.num hg⟩
theorem MgS.below (h : MgS w W P V A c n q a0 a1 a2 v) (hP : P < w.heap.size) (hVP : V ≠ P) (hb : Below W.heap.size W W') : MgS w W' P V A c n q a0 a1 a2 v :=
  h.num hP hVP (h.spot.below hb h.spot.lt) (grown_of_below hb _)
theorem MgS.drew (h : MgS w W P V A c n q a0 a1 a2 v) (hP : P < w.heap.size) (hVP : V ≠ P) : MgS w W.drew P V A c n q a0 a1 a2 v := h.below hP hVP (below_drew1 (Below.refl _ _))
theorem MgS.f (h : MgS w W P V A c n q a0 a1 a2 v) (i : Nat) : W.frozen? ⟨V, i, none⟩ = false := h.msg.f i
theorem MgS.put (h : MgS w W P V A c n q a0 a1 a2 v) (hVP : V ≠ P) (hV : V < w.heap.size) (i : Nat) (u : Value) (he : (#[.int .i64 a0, .int .i64 a1, .int .i64 a2, v] : Array Value).setIfInBounds i u = #[.int .i64 b0, .int .i64 b1, .int .i64 b2, v']) : MgS w (W.setCell ⟨V, i, none⟩ u) P V A c n q b0 b1 b2 v' :=
  ⟨(heap_set_ne W V i P u (Ne.symm hVP)).trans h.spot, (heap_set_ne W V i _ u (by omega)).trans h.ptr, h.msg.put i u he, h.kp.set i u⟩
theorem MgS.c0 (h : MgS w W P V A c n q a0 a1 a2 v) : W.cell? ⟨V, 0, none⟩ = some (.int .i64 a0) := h.msg.cells.1
theorem MgS.c1 (h : MgS w W P V A c n q a0 a1 a2 v) : W.cell? ⟨V, 1, none⟩ = some (.int .i64 a1) := h.msg.cells.2.1
theorem MgS.c2 (h : MgS w W P V A c n q a0 a1 a2 v) : W.cell? ⟨V, 2, none⟩ = some (.int .i64 a2) := h.msg.cells.2.2.1
theorem MgS.c3 (h : MgS w W P V A c n q a0 a1 a2 v) : W.cell? ⟨V, 3, none⟩ = some v := h.msg.cells.2.2.2
end
/-- What the reading of a message leaves. -/
def MgP (w : World) (P V : Nat) (A : Option Addr) (c : Nat) (b : List Int) (res : Rd MsgL) (e : Ending) (w' : World) : Prop :=
  Kp2 w w' P V ∧ match res with
  | .error f => e = .panicked (errCh f)
  | .ok (m, r) => e = .returned (.tuple #[]) ∧ ∃ v, MsgC w' V m.k m.who m.ver v ∧ ER w' w.heap.size v m.l ∧ SpotAt w' P A c b.length (b.length - r.length)
theorem MgP.err {w : World} {P V : Nat} {A : Option Addr} {c : Nat} {b : List Int} {res : Rd MsgL} {f : Int} {w' : World} (hr : res = .error f) (hk : Kp2 w w' P V) : MgP w P V A c b res (.panicked (errCh f)) w' := by
  subst hr
  exact ⟨hk, rfl⟩
theorem MgP.ok {w w' : World} {P V q : Nat} {A : Option Addr} {c : Nat} {b : List Int} {res : Rd MsgL} {k who ver : Int} {xs : List K.S26} {r : List Int} {v : Value} (hr : res = .ok (⟨k, who, ver, xs⟩, r)) (h : MgS w w' P V A c b.length q k who ver v) (hl : ER w' w.heap.size v xs) (hq : b.length - r.length = q) : MgP w P V A c b res (.returned (.tuple #[])) w' := by
  subst hr
  subst hq
  exact ⟨h.kp, rfl, v, h.msg, hl, h.spot⟩
def msgR1.T : Bool × List (List Nat × List Nat) := (true, [([], []), ([0], [0]), ([1], [1]), ([], []), ([3], [3]), ([4, 2], [4]), ([], []), ([6], [6]), ([7, 5], [7]), ([0, 1, 2, 5, 8], []), ([9, 2, 8, 0, 1, 2, 5, 8], [2, 9]), ([0, 1, 2, 3, 4, 5, 8, 9, 10], []), ([11, 5, 10, 0, 1, 2, 3, 4, 5, 8, 9, 10], [5, 11]), ([0, 1, 2, 3, 4, 5, 6, 7, 8, 9, 10, 11, 12], []), ([13, 8, 12, 0, 1, 2, 3, 4, 5, 6, 7, 8, 9, 10, 11, 12], [8, 13])])
def msgR1.B : List Nat := [0, 1, 3, 0, 8, 31, 0, 64, 255, 511, 1023, 2047, 4095, 8191, 16383]
def msgR4.T : Bool × List (List Nat × List Nat) := (true, [([], []), ([0], [0]), ([], []), ([2], [2]), ([3], [3]), ([1, 4, 3], [1, 4]), ([0, 1, 2, 3, 4, 5], []), ([6, 5, 5, 0, 1, 2, 3, 4, 5], [5, 6])])
def msgR4.B : List Nat := [0, 1, 0, 4, 12, 31, 63, 127]
end Go.Proofs.Ytmbnjgnmblgjoaa.Man
end

-- GetMsg
section
/- codec.GetMsg of the given program: what it comes to, for all bytes. Printed by wip/tools/gen_getmsg.py. -/

namespace Go.Proofs.Ytmbnjgnmblgjoaa.Man
open Go.RowKit Go.Proofs.YtmbnjgnmblgjoaaW.PrintWords Go.Proofs.YtmbnjgnmblgjoaaW.PrintLast Go.Proofs.YtmbnjgnmblgjoaaW.PrintMore
set_option linter.unusedVariables false
set_option linter.unusedSimpArgs false
set_option maxRecDepth 100000

theorem MsgC.ne {w w1 : World} {E : Nat} {a0 a1 a2 : Int} {v : Value} (h : MsgC w E a0 a1 a2 v) (e : w1.heap[E]? = w.heap[E]?) : MsgC w1 E a0 a1 a2 v := e.trans h
/-- A message stored whole. -/
def setMsg (w : World) (E : Nat) (b0 b1 b2 : Int) (u : Value) : World :=
  (((w.setCell ⟨E, 0, none⟩ (.int .i64 b0)).setCell ⟨E, 1, none⟩ (.int .i64 b1)).setCell ⟨E, 2, none⟩ (.int .i64 b2)).setCell ⟨E, 3, none⟩ u
theorem MsgC.set {w : World} {E : Nat} {a0 a1 a2 : Int} {v : Value} (h : MsgC w E a0 a1 a2 v) (b0 b1 b2 : Int) (u : Value) : MsgC (setMsg w E b0 b1 b2 u) E b0 b1 b2 u :=
  (((h.put 0 (.int .i64 b0) rfl).put 1 (.int .i64 b1) rfl).put 2 (.int .i64 b2) rfl).put 3 u rfl
theorem ER.setMsg {w : World} {base E : Nat} {v : Value} {xs : List K.S26} (h : ER w base v xs) (hE : E < base) (b0 b1 b2 : Int) (u : Value) : ER (setMsg w E b0 b1 b2 u) base v xs :=
  (((h.set hE 0 _).set hE 1 _).set hE 2 _).set hE 3 _
/-- A message read: its value. -/
def MsgR (base : Nat) (m : MsgL) (r : Value) (w' : World) : Prop := ∃ u, r = .agg #[.int .i64 m.k, .int .i64 m.who, .int .i64 m.ver, u] ∧ ER w' base u m.l

end Go.Proofs.Ytmbnjgnmblgjoaa.Man
end

-- Alike
section
/- The statements' own comparisons of tokens and steps (layer 16) at equal arguments: true. -/

namespace Go.Proofs.Ytmbnjgnmblgjoaa.Man
open Go.RowKit Go.Proofs.YtmbnjgnmblgjoaaW.PrintWords Go.Proofs.YtmbnjgnmblgjoaaW.PrintLast Go.Proofs.YtmbnjgnmblgjoaaW.PrintMore
set_option linter.unusedVariables false
set_option linter.unusedSimpArgs false
set_option maxRecDepth 100000
attribute [local go_sem high] K.eqA111

/-- A step's cells. -/
abbrev stepV (x : K.S26) (A : Option Addr) (c : Nat) : Value := .agg #[.int .i64 x.f2.f0, .int .i64 x.f2.f1, .int .i64 x.f2.f2, .int .i64 x.f2.f3, .int .i64 x.f2.f4, .int .i64 x.f2.f5, .slice A x.f2.f6.length c, .int .i64 x.f2.f7]
end Go.Proofs.Ytmbnjgnmblgjoaa.Man
end

-- Entries
section
/- The statements' own comparison of entries and messages (layer 16) at equal arguments: true. Printed by wip/tools/gen_entries.py. -/

namespace Go.Proofs.Ytmbnjgnmblgjoaa.Man
open Go.RowKit Go.Proofs.YtmbnjgnmblgjoaaW.PrintWords Go.Proofs.YtmbnjgnmblgjoaaW.PrintLast Go.Proofs.YtmbnjgnmblgjoaaW.PrintMore
set_option linter.unusedVariables false
set_option linter.unusedSimpArgs false
set_option maxRecDepth 100000

/-- An entry's cells at a place. -/
def EC (w : World) (a : Addr) (x : K.S26) (A8 : Option Addr) (c8 : Nat) : Prop := w.cell? a = some (.int .i64 x.f0) ∧ w.cell? ⟨a.block, a.off + 1, none⟩ = some (.int .i64 x.f1) ∧ w.cell? ⟨a.block, a.off + 2, none⟩ = some (.int .i64 x.f2.f0) ∧ w.cell? ⟨a.block, a.off + 3, none⟩ = some (.int .i64 x.f2.f1) ∧ w.cell? ⟨a.block, a.off + 4, none⟩ = some (.int .i64 x.f2.f2) ∧ w.cell? ⟨a.block, a.off + 5, none⟩ = some (.int .i64 x.f2.f3) ∧ w.cell? ⟨a.block, a.off + 6, none⟩ = some (.int .i64 x.f2.f4) ∧ w.cell? ⟨a.block, a.off + 7, none⟩ = some (.int .i64 x.f2.f5) ∧ w.cell? ⟨a.block, a.off + 8, none⟩ = some (.slice A8 x.f2.f6.length c8) ∧ w.cell? ⟨a.block, a.off + 9, none⟩ = some (.int .i64 x.f2.f7)
theorem EC.below {w W : World} {a : Addr} {x : K.S26} {A8 : Option Addr} {c8 : Nat} (h : EC w a x A8 c8) (hb : Below w.heap.size w W) : EC W a x A8 c8 := by
  obtain ⟨h0, h1, h2, h3, h4, h5, h6, h7, h8, h9⟩ := h
  exact ⟨pw_cell_below hb h0, pw_cell_below hb h1, pw_cell_below hb h2, pw_cell_below hb h3, pw_cell_below hb h4, pw_cell_below hb h5, pw_cell_below hb h6, pw_cell_below hb h7, pw_cell_below hb h8, pw_cell_below hb h9⟩
theorem EC.at {w : World} {A : Option Addr} {n : Nat} {xs : List K.S26} (h : Kd.C K.k26 w A n xs) (i : Nat) (hi : i < n) : ∃ ad A8 c8, A = some ad ∧ EC w (ad.add (i * 10)) (K.rd_T26 xs i) A8 c8 ∧ (K.rd_T26 xs i).f2.f6.length ≤ c8 ∧ Kd.C K.k111 w A8 (K.rd_T26 xs i).f2.f6.length (K.rd_T26 xs i).f2.f6 := by
  obtain ⟨ad, A8, c8, e, h0, h1, h2, h3, h4, h5, h6, h7, h8, h9, hl, hc⟩ := K.at_T26 h (i : Int) (by omega) (by omega)
  rw [Int.toNat_natCast] at h0 h1 h2 h3 h4 h5 h6 h7 h8 h9
  exact ⟨ad, A8, c8, e, ⟨h0, h1, h2, h3, h4, h5, h6, h7, h8, h9⟩, hl, hc⟩
def entR6.T : Bool × List (List Nat × List Nat) := (true, [([], []), ([], []), ([0, 1], [0, 1]), ([2], [2]), ([3], [3]), ([], []), ([], []), ([5, 6], [5, 6]), ([7], [7]), ([8], [8]), ([4, 9], [4, 9]), ([10], [10]), ([11], [11]), ([11], [11]), ([12, 13, 11], [11, 12, 13]), ([14, 11], [11, 14]), ([15, 11], [11, 15]), ([11], [11]), ([11], [11]), ([17, 18, 11], [11, 17, 18]), ([19, 11], [11, 19]), ([20, 11], [11, 20]), ([16, 21, 11], [11, 16, 21]), ([11, 22], [11, 22]), ([23, 11], [23]), ([24], [24]), ([24], [24]), ([25, 26, 24], [24, 25, 26]), ([27, 24], [24, 27]), ([28, 24], [24, 28]), ([24], [24]), ([24], [24]), ([30, 31, 24], [24, 30, 31]), ([32, 24], [24, 32]), ([33, 24], [24, 33]), ([29, 34, 24, 24], [24, 29, 34]), ([35, 24], [24, 35]), ([24, 36], [24, 36])])
def entR6.B : List Nat := [0, 0, 3, 7, 15, 0, 0, 96, 224, 480, 1023, 2047, 4095, 4095, 16383, 32767, 65535, 4095, 4095, 397311, 921599, 1970175, 4194303, 8388607, 16777215, 33554431, 33554431, 134217727, 268435455, 536870911, 33554431, 33554431, 3254779903, 7549747199, 16139681791, 34359738367, 68719476735, 137438953471]
end Go.Proofs.Ytmbnjgnmblgjoaa.Man
end

-- BackMath
section
/- What is written is bytes; one entry that lies in a row. -/

namespace Go.Proofs.Ytmbnjgnmblgjoaa.Man
open Go.RowKit Go.Proofs.YtmbnjgnmblgjoaaW.PrintWords Go.Proofs.YtmbnjgnmblgjoaaW.PrintLast Go.Proofs.YtmbnjgnmblgjoaaW.PrintMore
set_option linter.unusedVariables false
set_option linter.unusedSimpArgs false
set_option maxRecDepth 100000

theorem bytes_app {a b : List Int} (ha : areBytesN a = true) (hb : areBytesN b = true) : areBytesN (a ++ b) = true := by
  unfold areBytesN at *
  rw [List.all_append, ha, hb]
  rfl
theorem bytes_flat {α : Type} (f : α → List Int) (h : ∀ x, areBytesN (f x) = true) : ∀ l : List α, areBytesN (l.flatMap f) = true
  | [] => rfl
  | x :: l => by rw [List.flatMap_cons]; exact bytes_app (h x) (bytes_flat f h l)
theorem tokB_bytes (x : K.S111) : areBytesN (tokB x) = true := by
  unfold tokB
  refine bytes_app (vb_bytes _) ?_
  split
  · exact vb_bytes _
  · split
    · exact vb_bytes _
    · rfl
theorem docB_bytes (l : List K.S111) : areBytesN (docB l) = true := bytes_app (vb_bytes _) (bytes_flat _ tokB_bytes l)
theorem entryB_bytes (x : K.S26) : areBytesN (entryB x) = true := by
  unfold entryB
  refine bytes_app (vbs_bytes _) ?_
  split
  · exact vbs_bytes _
  · split
    · exact bytes_app (vbs_bytes _) (docB_bytes _)
    · exact docB_bytes _
end Go.Proofs.Ytmbnjgnmblgjoaa.Man
end

-- Log
section
/- A log's frames, over lists: what bytes hold of whole frames of entries, and where the frames end. Plain: no program's run. -/


namespace Go.Proofs.Ytmbnjgnmblgjoaa.Man
open Go.RowKit Go.Proofs.YtmbnjgnmblgjoaaW.PrintWords Go.Proofs.YtmbnjgnmblgjoaaW.PrintLast Go.Proofs.YtmbnjgnmblgjoaaW.PrintMore
set_option linter.unusedVariables false
set_option linter.unusedSimpArgs false

/-- An entry's frame. -/
def entF (x : K.S26) : List Int := frameF (entryB x)
/-- An entry that may lie in a log. -/
def Fine (x : K.S26) : Prop := entryE x = 0 ∧ (entryB x).length ≤ 65536
def flatE (xs : List K.S26) : List Int := xs.flatMap entF
/-- The places behind the frames, the first of which begins at p. -/
def endsE (p : Nat) : List K.S26 → List Int
  | [] => []
  | x :: xs => ((p + (entF x).length : Nat) : Int) :: endsE (p + (entF x).length) xs
/-- No whole frame of an entry stands at the head. -/
def Stop (r : List Int) : Prop := (openF r 0).2.2 ≠ 0 ∨ (getEntryF (openF r 0).1).2 ≠ 0
structure LogOf (b : List Int) (xs : List K.S26) (r : List Int) : Prop where
  eq : b = flatE xs ++ r
  fine : ∀ x ∈ xs, Fine x
  stop : Stop r

theorem flatE_nil : flatE [] = [] := rfl
theorem flatE_cons (x : K.S26) (xs : List K.S26) : flatE (x :: xs) = entF x ++ flatE xs := rfl
theorem flatE_append (xs ys : List K.S26) : flatE (xs ++ ys) = flatE xs ++ flatE ys := List.flatMap_append
theorem flatE_snoc (xs : List K.S26) (x : K.S26) : flatE (xs ++ [x]) = flatE xs ++ entF x := by rw [flatE_append, flatE_cons, flatE_nil, List.append_nil]
theorem entF_bytes (x : K.S26) : areBytesN (entF x) = true := frameF_bytes _ (entryB_bytes x)
theorem flatE_bytes (xs : List K.S26) : areBytesN (flatE xs) = true := bytes_flat _ entF_bytes xs
theorem entF_pos (x : K.S26) : 5 ≤ (entF x).length := by
  unfold entF
  rw [frameF_length]
  have := vb_length_pos (entryB x).length
  omega
theorem entF_le {x : K.S26} (h : Fine x) : (entF x).length ≤ 65543 := by
  unfold entF
  rw [frameF_length]
  have h1 := vb_length_le 2 (entryB x).length (by have := h.2; omega)
  have := h.2
  omega
theorem endsE_snoc (x : K.S26) : ∀ (p : Nat) (xs : List K.S26), endsE p (xs ++ [x]) = endsE p xs ++ [((p + (flatE (xs ++ [x])).length : Nat) : Int)]
  | p, [] => by simp [endsE, flatE]
  | p, y :: xs => by
    rw [List.cons_append, endsE, endsE_snoc x, endsE, List.cons_append, flatE_cons, List.length_append, Nat.add_assoc]
theorem endsE_length : ∀ (p : Nat) (xs : List K.S26), (endsE p xs).length = xs.length
  | _, [] => rfl
  | p, y :: xs => by rw [endsE, List.length_cons, endsE_length, List.length_cons]
theorem endsE_get : ∀ (i p : Nat) (xs : List K.S26), i < xs.length → (endsE p xs).getD i 0 = ((p + (flatE (xs.take (i + 1))).length : Nat) : Int)
  | _, _, [], h => absurd h (Nat.not_lt_zero _)
  | 0, p, x :: xs, _ => by simp [endsE, flatE]
  | i + 1, p, x :: xs, h => by
    rw [endsE, List.getD_cons_succ, endsE_get i _ xs (by simpa using h), List.take_succ_cons, flatE_cons, List.length_append, Nat.add_assoc]
theorem flat_len_ge (xs : List K.S26) : 5 * xs.length ≤ (flatE xs).length := by
  induction xs with
  | nil => simp [flatE]
  | cons x xs ih => rw [flatE_cons, List.length_append, List.length_cons]; have := entF_pos x; omega
theorem bytes_take {l : List Int} (h : areBytesN l = true) (n : Nat) : areBytesN (l.take n) = true := by
  unfold areBytesN at *
  rw [List.all_eq_true] at *
  exact fun x hx => h x (List.mem_of_mem_take hx)
theorem bytes_drop {l : List Int} (h : areBytesN l = true) (n : Nat) : areBytesN (l.drop n) = true := by
  unfold areBytesN at *
  rw [List.all_eq_true] at *
  exact fun x hx => h x (List.mem_of_mem_drop hx)
theorem stop_nil : Stop [] := .inl (by rw [openF_empty]; decide)
/-- What is opened where a frame of the log begins. -/
theorem LogOf.open_at {b : List Int} {xs pre suf : List K.S26} {x : K.S26} {r : List Int} (h : LogOf b xs r) (hB : areBytesN b = true) (e : xs = pre ++ x :: suf) :
    openF b ((flatE pre).length : Int) = (entryB x, ((flatE (pre ++ [x])).length : Int), 0) ∧ getEntryF (entryB x) = (x, 0) := by
  have hf := h.fine x (by rw [e]; simp)
  have hb : b = flatE pre ++ (entF x ++ (flatE suf ++ r)) := by rw [h.eq, e, flatE_append, flatE_cons]; simp
  have hl : (flatE pre).length ≤ b.length := by rw [hb, List.length_append]; omega
  have h1 := openF_drop b (flatE pre).length 0 hl hB (by decide)
  have h2 : b.drop (flatE pre).length = frameF (entryB x) ++ (flatE suf ++ r) := by rw [hb, List.drop_left]; rfl
  have h3 := openF_frame (entryB x) (flatE suf ++ r) (entryB_bytes x) hf.2
  rw [h2, h3, Int.add_zero] at h1
  refine ⟨?_, getEntry_put hf.1⟩
  obtain ⟨⟨y, nx, e2⟩, ho⟩ : ∃ p, openF b ((flatE pre).length : Int) = p := ⟨_, rfl⟩
  rw [ho] at h1 ⊢
  simp only [Prod.mk.injEq] at h1
  obtain ⟨rfl, h4, rfl⟩ := h1
  rw [flatE_snoc, List.length_append]
  unfold entF
  simp only [Prod.mk.injEq, true_and, and_true]
  omega
theorem LogOf.open_end {b : List Int} {xs : List K.S26} {r : List Int} (h : LogOf b xs r) (hB : areBytesN b = true) :
    (openF b ((flatE xs).length : Int)).2.2 ≠ 0 ∨ (getEntryF (openF b ((flatE xs).length : Int)).1).2 ≠ 0 := by
  have hl : (flatE xs).length ≤ b.length := by rw [h.eq, List.length_append]; omega
  have h1 := openF_drop b (flatE xs).length 0 hl hB (by decide)
  have h2 : b.drop (flatE xs).length = r := by rw [h.eq, List.drop_left]
  rw [h2, Int.add_zero] at h1
  have h3 := h.stop
  unfold Stop at h3
  rw [h1] at h3
  exact h3
theorem LogOf.len {b : List Int} {xs : List K.S26} {r : List Int} (h : LogOf b xs r) : (flatE xs).length ≤ b.length := by rw [h.eq, List.length_append]; omega
theorem LogOf.take {b : List Int} {xs : List K.S26} {r : List Int} (h : LogOf b xs r) : b.take (flatE xs).length = flatE xs := by rw [h.eq, List.take_left]
/-- A log that is cut anywhere: the first frames stay. -/
theorem log_cut : ∀ (xs : List K.S26) (n : Nat), (∀ x ∈ xs, Fine x) → n ≤ (flatE xs).length → ∃ k r, k ≤ xs.length ∧ LogOf ((flatE xs).take n) (xs.take k) r ∧ (∀ m, m ≤ xs.length → (flatE (xs.take m)).length ≤ n → m ≤ k)
  | [], n, _, _ => ⟨0, [], Nat.le_refl _, ⟨by simp [flatE], fun x h => (by simp at h), stop_nil⟩, fun m hm _ => by simpa using hm⟩
  | x :: xs, n, hF, hn => by
    have hx := hF x List.mem_cons_self
    by_cases hlt : n < (entF x).length
    · refine ⟨0, (entF x).take n, Nat.zero_le _, ⟨?_, fun y h => (by simp at h), .inl ?_⟩, fun m hm hml => ?_⟩
      · rw [flatE_cons, List.take_append_of_le_length (by omega)]; rfl
      · have := openF_short (entryB x) hx.2 n hlt
        rw [show (entF x).take n = (frameF (entryB x)).take n from rfl, this]
        decide
      · rcases m with _ | m
        · exact Nat.le_refl _
        · rw [List.take_succ_cons, flatE_cons, List.length_append] at hml
          omega
    · rw [flatE_cons, List.length_append] at hn
      obtain ⟨k, r, hk, hl, hm⟩ := log_cut xs (n - (entF x).length) (fun y hy => hF y (List.mem_cons_of_mem _ hy)) (by omega)
      refine ⟨k + 1, r, by rw [List.length_cons]; omega, ⟨?_, ?_, hl.stop⟩, fun m hm' hml => ?_⟩
      · rw [flatE_cons, List.take_append, List.take_of_length_le (by omega), hl.eq, List.take_succ_cons, flatE_cons, List.append_assoc]
      · intro y hy
        rw [List.take_succ_cons] at hy
        rcases List.mem_cons.1 hy with rfl | hy
        · exact hx
        · exact hl.fine y hy
      · rcases m with _ | m
        · omega
        · rw [List.take_succ_cons, flatE_cons, List.length_append] at hml
          have := hm m (by simpa using hm') (by omega)
          omega
end Go.Proofs.Ytmbnjgnmblgjoaa.Man
end

-- Frames
section
/- A journal's frames, one by one (journal.frames and its function). -/




namespace Go.Proofs.Ytmbnjgnmblgjoaa.Man
open Go.RowKit Go.Shelf Go.Proofs.YtmbnjgnmblgjoaaW.PrintWords Go.Proofs.YtmbnjgnmblgjoaaW.PrintLast Go.Proofs.YtmbnjgnmblgjoaaW.PrintMore
set_option linter.unusedVariables false
set_option linter.unusedSimpArgs false
set_option maxRecDepth 100000

theorem wide_fn_ (k : Nat) : Fence.wide.fn k = True := rfl
attribute [local go_sem] wide_fn_
/-- What is handed to a round: the place behind the frame, the entry, where its tokens lie. -/
structure Fed where
  nx : Nat
  x : K.S26
  A : Option Addr
  c : Nat
abbrev Fed.encs (f : Fed) : Array Value := #[.int .i64 f.nx, .agg #[.int .i64 f.x.f0, .int .i64 f.x.f1, .int .i64 f.x.f2.f0, .int .i64 f.x.f2.f1, .int .i64 f.x.f2.f2, .int .i64 f.x.f2.f3, .int .i64 f.x.f2.f4, .int .i64 f.x.f2.f5, .slice f.A f.x.f2.f6.length f.c, .int .i64 f.x.f2.f7]]
def fedX (l : List Fed) : List K.S26 := l.map Fed.x
/-- What is known of what is handed over, in the world of the handing. -/
def FedN (base : Nat) (xs : List K.S26) (pre : List Fed) (f : Fed) (W : World) : Prop :=
  fedX pre ++ [f.x] <+: xs ∧ f.nx = (flatE (fedX pre ++ [f.x])).length ∧ f.x.f2.f6.length ≤ f.c ∧ TR W base (.slice f.A f.x.f2.f6.length f.c) f.x.f2.f6
/-- What a round leaves to the function: its box, the bytes. -/
def FedK (Bb : Nat) (A : Option Addr) (X Y : World) : Prop := Y.heap[Bb]? = X.heap[Bb]? ∧ ∀ ad, A = some ad → Y.heap[ad.block]? = X.heap[ad.block]?

theorem openF_bytes (b : List Int) (p : Int) (hB : areBytesN b = true) : areBytesN (openF b p).1 = true := by
  unfold openF
  split
  · rfl
  · split
    · rfl
    · split
      · rfl
      · split
        · rfl
        · exact bytes_drop (bytes_take hB _) _
theorem frames_any (A : Option Addr) (n c : Nat) (w : World) : Calls Try.prog 135 #[.slice A n c] w fun e w' => e = .returned (.func (.func 157) #[] #[.pointer (some ⟨w.heap.size, 0, none⟩)]) ∧ w' = w.alloc (.cells #[.slice A n c] 27) := by
  go_enter Try.func135, Try.ntmps135
  go_wp2
  go_ret
  exact ⟨rfl, rfl⟩

set_option maxHeartbeats 8000000 in
theorem frames1_in (k : Nat) (hk : 1 ≤ k) (l Bb base : Nat) (A : Option Addr) (c : Nat) (b : List Int) (xs : List K.S26) (r : List Int) (hL : LogOf b xs r) (hB : areBytesN b = true) (hc : b.length ≤ c) (hl : b.length ≤ 262144)
    (J : List Fed → World → Prop) (hJ : ∀ s X Y, J s X → Below X.heap.size X Y → J s Y)
    (hY : ∀ pre f W, J pre W → FedN base xs pre f W → YieldAt Fence.wide (k - 1) Try.prog l f.encs W fun e W' => e = .returned (.bool true) ∧ J (pre ++ [f]) W' ∧ FedK Bb A W W')
    (W : World) (hbase : base ≤ W.heap.size) (hBox : Boxed W Bb 27 (.slice A b.length c)) (hC : Kd.C (Kd.int .u8) W A b.length b) (h0 : J [] W) (hJs : ∀ s X, J s X → base ≤ X.heap.size) :
    CallsIn Fence.wide k Try.prog 157 #[.func (.yield l) #[] #[], .pointer (some ⟨Bb, 0, none⟩)] W fun e W' => (∃ v, e = .returned v) ∧ ∃ ys, fedX ys = xs ∧ J ys W' := by
  have HL := Lib.hid hL
  have HB := Lib.hid hB
  have HJ := Lib.hid hJ
  have HY := Lib.hid hY
  have HS := Lib.hid hJs
  have HX := Lib.hid hBox
  have HC := Lib.hid hC
  clear hL hB hJ hY hJs hBox hC
  refine callsIn_of_wp Try.func157 rfl trivial ?_ rfl
  simp only [Try.ntmps157, List.size_toArray, List.length_cons, List.length_nil, Nat.reduceAdd, Nat.reduceSub, Array.replicate_succ, Array.replicate_zero, List.push_toArray, List.append_toArray, List.nil_append, List.cons_append]
  gi_wp2
  gi_loopw [3] (fun s3 wr => ∃ (pre : List Fed) (suf : List K.S26) (p : Nat), s3 = .int .i64 p ∧ Hid (fedX pre ++ suf = xs) ∧ Hid ((flatE (fedX pre)).length = p) ∧ p ≤ b.length ∧ Hid (Boxed wr Bb 27 (.slice A b.length c)) ∧ Hid (Kd.C (Kd.int .u8) wr A b.length b) ∧ Hid (J pre wr))
    (fun s3 _ => b.length - (intOf s3).toNat)
  case atStart => exact ⟨[], xs, 0, rfl, Lib.hid rfl, Lib.hid rfl, Nat.zero_le _, HX, HC, Lib.hid h0⟩
  case round =>
    clear HX HC h0
    obtain ⟨pre, suf, p, rfl, HE, HP, hp, HX, HC, HJR⟩ := hrel
    have cB := HX.out.cell
    have HO := Lib.hid (open_any A c b (p : Int) wr HC.out hc HB.out (by omega))
    cases suf with
    | nil =>
      have hend := HL.out.open_end HB.out
      have he := HE.out
      rw [List.append_nil] at he
      rw [← he, HP.out] at hend
      by_cases hlt : p < b.length
      · obtain ⟨⟨y, nx, er⟩, ho⟩ : ∃ q, openF b (p : Int) = q := ⟨_, rfl⟩
        have hO := HO.out
        rw [ho] at hend hO
        simp only at hend hO
        have HOY := Lib.hid ho
        have HEN := Lib.hid hend
        have HO2 := Lib.hid hO
        have HEE := Lib.hid he
        clear hend hO ho HO he
        by_cases h1 : er = 0
        · have t1 : (er != 0) = false := by simpa using h1
          have HE1 := Lib.hid (HEN.out.resolve_left (fun h => h h1))
          obtain ⟨⟨x, e2⟩, hx⟩ : ∃ q, getEntryF y = q := ⟨_, rfl⟩
          have hne := HE1.out
          rw [hx] at hne
          simp only at hne
          have t2 : (e2 != 0) = true := by simpa using hne
          have HGX := Lib.hid hx
          clear hx hne h1
          have HYB := Lib.hid (show areBytesN y = true by have := openF_bytes b (p : Int) HB.out; rw [HOY.out] at this; exact this)
          gi_wp2_with (first
            | (gi_at_call 22; refine (callsIn_wide.2 HO2.out).mono ?_; rintro e w1 ⟨v, rfl, hr, hb⟩; have HJ1 := Lib.hid (HJ.out _ _ _ HJR.out hb); obtain ⟨A1, c1, rfl, hc1, hC1⟩ := BR.len hr; have hG := getEntry_is w1 A1 c1 y hC1 hc1 HYB.out; rw [HGX.out] at hG; have HG := Lib.hid hG; clear hr hb hC1 hG hc1)
            | (gi_at_call 23; refine (callsIn_wide.2 HG.out).mono ?_; rintro e w2 ⟨u, rfl, hr, hb⟩; have HJ2 := Lib.hid (HJ.out _ _ _ HJ1.out hb); obtain ⟨u8, rfl, ht⟩ := hr; obtain ⟨A8, c8, rfl, l8, _⟩ := TR.C ht; have HBA := Lib.hid ((Below.refl w2.heap.size w2).alloc (Nat.le_refl _) (.cells #[.int .i64 x.f0, .int .i64 x.f1, .int .i64 x.f2.f0, .int .i64 x.f2.f1, .int .i64 x.f2.f2, .int .i64 x.f2.f3, .int .i64 x.f2.f4, .int .i64 x.f2.f5, .slice A8 x.f2.f6.length c8, .int .i64 x.f2.f7] 26)); clear hb ht))
          refine bodyPost_ret (v := .tuple #[]) (results_none rfl _ _ _) rfl ?_
          exact ⟨⟨_, rfl⟩, pre, HEE.out, HJ.out _ _ _ HJ2.out HBA.out⟩
        · have t1 : (er != 0) = true := by simpa using h1
          gi_wp2_with (gi_at_call 22; refine (callsIn_wide.2 HO2.out).mono ?_; rintro e w1 ⟨v, rfl, hr, hb⟩; have HJ1 := Lib.hid (HJ.out _ _ _ HJR.out hb); clear hr hb)
          refine bodyPost_ret (v := .tuple #[]) (results_none rfl _ _ _) rfl ?_
          exact ⟨⟨_, rfl⟩, pre, HEE.out, HJ1.out⟩
      · obtain rfl : p = b.length := by omega
        clear HO hend
        gi_wp2
        go_end0
        exact ⟨⟨_, rfl⟩, pre, he, HJR.out⟩
    | cons x suf =>
      have he := HE.out
      obtain ⟨ho, hx⟩ := HL.out.open_at HB.out he.symm
      obtain ⟨nx, hnx⟩ : ∃ nx, (flatE (fedX pre ++ [x])).length = nx := ⟨_, rfl⟩
      rw [HP.out, hnx] at ho
      have hlt : p < b.length := by
        have h1 := HL.out.len
        have h2 := HP.out
        rw [← he, flatE_append, flatE_cons, List.length_append, List.length_append] at h1
        have := entF_pos x
        omega
      have hnb : nx ≤ b.length := by
        have h1 := HL.out.len
        rw [← he, flatE_append, flatE_cons, List.length_append, List.length_append] at h1
        rw [← hnx, flatE_snoc, List.length_append]
        omega
      have hpn : p < nx := by
        rw [← hnx, flatE_snoc, List.length_append, HP.out]
        have := entF_pos x
        omega
      have hO := HO.out
      rw [ho] at hO
      simp only at hO
      have HO2 := Lib.hid hO
      have HGX := Lib.hid hx
      have HNX := Lib.hid hnx
      have HEE := Lib.hid he
      have HPX : Hid (fedX pre ++ [x] <+: xs) := Lib.hid (by rw [← he]; exact ⟨suf, by simp⟩)
      clear hO ho hx hnx he HE HO
      gi_wp2_with (first
        | (gi_at_call 22; refine (callsIn_wide.2 HO2.out).mono ?_; rintro e w1 ⟨v, rfl, hr, hb⟩; have HJ1 := Lib.hid (HJ.out _ _ _ HJR.out hb); obtain ⟨A1, c1, rfl, hc1, hC1⟩ := BR.len hr; have hG := getEntry_is w1 A1 c1 (entryB x) hC1 hc1 (entryB_bytes x); rw [HGX.out] at hG; have HG := Lib.hid hG; have HB1 := Lib.hid hb; clear hr hb hC1 hG hc1)
        | (gi_at_call 23; refine (callsIn_wide.2 HG.out).mono ?_; rintro e w2 ⟨u, rfl, hr, hb⟩; have HJ2 := Lib.hid (HJ.out _ _ _ HJ1.out hb); obtain ⟨u8, rfl, ht⟩ := hr; obtain ⟨A8, c8, rfl, l8, _⟩ := TR.C ht; have HBA := (Below.refl w2.heap.size w2).alloc (Nat.le_refl _) (entO x A8 c8); have HT8 := Lib.hid (Kd.R_below (Kd.R_lower ht (HS.out _ _ HJ1.out)) HBA); have HJ3 := Lib.hid (HJ.out _ _ _ HJ2.out HBA); have HB3 := Lib.hid (HB1.out.trans ((hb.trans (HBA.mono hb.size)).mono HB1.out.size)); obtain ⟨fn, tmps, assign, body, hy, hR⟩ := HY.out pre ⟨nx, x, A8, c8⟩ _ HJ3.out ⟨HPX.out, HNX.out.symm, l8, HT8.out⟩; clear hb ht HBA HG HJ1 HJ2 HT8))
      refine hR.mono ?_
      rintro e W3 ⟨rfl, hJ3, hk3⟩
      have HX3 : Hid (Boxed W3 Bb 27 (.slice A b.length c)) := Lib.hid (hk3.1.trans ((HB3.out.block Bb HX.out.lt).trans HX.out))
      have HC3 : Hid (Kd.C (Kd.int .u8) W3 A b.length b) := Lib.hid (C_moveK (Kd.C_below HC.out HB3.out) hk3.2)
      have HJ4 := Lib.hid hJ3
      clear hJ3 hk3 hy hR HJ3
      gi_wp2
      go_roundw
      case rel => exact ⟨pre ++ [⟨nx, x, A8, c8⟩], suf, nx, rfl, Lib.hid (by rw [← HEE.out]; simp [fedX]), Lib.hid (by rw [← HNX.out]; simp [fedX]), hnb, HX3, HC3, HJ4⟩
      case measure => simp [intOf]; omega
end Go.Proofs.Ytmbnjgnmblgjoaa.Man
end

-- Disk
section
/- The given program's disk (layer 17), method by method: what each comes to on a disk that nobody made. -/




















namespace Go.Proofs.Ytmbnjgnmblgjoaa.Man
open Go.RowKit Go.Proofs.YtmbnjgnmblgjoaaW.PrintWords Go.Proofs.YtmbnjgnmblgjoaaW.PrintLast
set_option linter.unusedVariables false
set_option linter.unusedSimpArgs false

/-- A disk lies in block B. -/
def DiskAt (w : World) (B : Nat) (v : Value) (s m : Int) (made : Bool) : Prop := w.heap[B]? = some (.cells #[v, .int .i64 s, .int .i64 m, .bool made] 148 (0, 0))
theorem DiskAt.c0 {w : World} {B : Nat} {v : Value} {s m : Int} {made : Bool} (h : DiskAt w B v s m made) : w.cell? ⟨B, 0, none⟩ = some v := by simp [World.cell?, show w.heap[B]? = _ from h]
theorem DiskAt.c1 {w : World} {B : Nat} {v : Value} {s m : Int} {made : Bool} (h : DiskAt w B v s m made) : w.cell? ⟨B, 1, none⟩ = some (.int .i64 s) := by simp [World.cell?, show w.heap[B]? = _ from h]
theorem DiskAt.c2 {w : World} {B : Nat} {v : Value} {s m : Int} {made : Bool} (h : DiskAt w B v s m made) : w.cell? ⟨B, 2, none⟩ = some (.int .i64 m) := by simp [World.cell?, show w.heap[B]? = _ from h]
theorem DiskAt.c3 {w : World} {B : Nat} {v : Value} {s m : Int} {made : Bool} (h : DiskAt w B v s m made) : w.cell? ⟨B, 3, none⟩ = some (.bool made) := by simp [World.cell?, show w.heap[B]? = _ from h]

theorem none_at (w : World) (B : Nat) (v : Value) (s m : Int) (made : Bool) (h : DiskAt w B v s m made) : Calls Try.prog 99 #[.pointer (some ⟨B, 0, none⟩)] w fun e w' => e = .returned (.bool (!made)) ∧ w = w' := by
  have c3 := h.c3
  go_enter Try.func99, Try.ntmps99
  go_wp2
  go_ret
  exact ⟨rfl, rfl⟩

/-! ### A disk that nobody made -/
def NoDisk (w : World) (p : Option Addr) : Prop := p = none ∨ ∃ B v s m, p = some ⟨B, 0, none⟩ ∧ DiskAt w B v s m false
end Go.Proofs.Ytmbnjgnmblgjoaa.Man
end

-- DiskRow
section
/- The row of bytes that a disk holds: one of its own, whose block may be longer than the row's capacity (behind b[:n:n]). Appends, cuts, moves. -/

namespace Go.Proofs.Ytmbnjgnmblgjoaa.Man
open Go.RowKit Go.Proofs.YtmbnjgnmblgjoaaW.PrintWords Go.Proofs.YtmbnjgnmblgjoaaW.PrintLast
set_option linter.unusedVariables false
set_option linter.unusedSimpArgs false
set_option maxRecDepth 100000

/-- v is a row of its own, block from base on, that holds the bytes xs. -/
def DRow (w : World) (base : Nat) (v : Value) (xs : List Int) : Prop :=
  (v = .slice none 0 0 ∧ xs = []) ∨ ∃ g cap cur, v = .slice (some ⟨g, 0, none⟩) xs.length cap ∧ base ≤ g ∧ w.heap[g]? = some (.cells cur 5 (0, 0)) ∧ xs.length ≤ cap ∧ cap ≤ cur.size ∧ cap ≤ maxLen ∧ cur.toList.take xs.length = encs (Value.int .u8) xs

theorem DRow.nil (w : World) (base : Nat) : DRow w base (.slice none 0 0) [] := .inl ⟨rfl, rfl⟩
theorem DRow.of_own {w : World} {base : Nat} {v : Value} {xs : List Int} (h : w.ownsRow base 5 1 v xs.length (encs (Value.int .u8) xs)) : DRow w base v xs := by
  rcases h.2 with ⟨rfl, h0⟩ | ⟨g, cap, cur, rfl, h1, h2, h3, h4, h5, h6⟩
  · exact .inl ⟨rfl, List.eq_nil_of_length_eq_zero h0⟩
  · exact .inr ⟨g, cap, cur, rfl, h1, h2, h3, by omega, h4, by rw [Nat.mul_one] at h6; exact h6⟩
theorem DRow.move {w w1 : World} {base : Nat} {v : Value} {xs : List Int} (h : DRow w base v xs) (hm : ∀ k, v.ownBlock = some k → w1.heap[k]? = w.heap[k]?) : DRow w1 base v xs := by
  rcases h with h | ⟨g, cap, cur, rfl, h1, h2, h3⟩
  · exact .inl h
  · exact .inr ⟨g, cap, cur, rfl, h1, (hm g rfl).trans h2, h3⟩
theorem DRow.lower {w : World} {base base' : Nat} {v : Value} {xs : List Int} (h : DRow w base v xs) (hb : base' ≤ base) : DRow w base' v xs := by
  rcases h with h | ⟨g, cap, cur, rfl, h1, h2⟩
  · exact .inl h
  · exact .inr ⟨g, cap, cur, rfl, by omega, h2⟩
theorem DRow.block {w : World} {base : Nat} {v : Value} {xs : List Int} (h : DRow w base v xs) {k : Nat} (hk : v.ownBlock = some k) : base ≤ k ∧ k < w.heap.size ∧ ∃ cur, w.heap[k]? = some (.cells cur 5 (0, 0)) := by
  rcases h with ⟨rfl, _⟩ | ⟨g, cap, cur, rfl, h1, h2, _⟩
  · cases hk
  · obtain rfl : g = k := by simpa [Value.ownBlock] using hk
    exact ⟨h1, (Array.getElem?_eq_some_iff.1 h2).1, cur, h2⟩
theorem DRow.len {w : World} {base : Nat} {v : Value} {xs : List Int} (h : DRow w base v xs) : ∃ A c, v = .slice A xs.length c ∧ xs.length ≤ c := by
  rcases h with ⟨rfl, rfl⟩ | ⟨g, cap, cur, rfl, h1, h2, h3, _⟩
  · exact ⟨none, 0, rfl, Nat.le_refl _⟩
  · exact ⟨_, cap, rfl, h3⟩
theorem DRow.cell {w : World} {base g n cap : Nat} {xs : List Int} (h : DRow w base (.slice (some ⟨g, 0, none⟩) n cap) xs) {j : Nat} {u : Value} (hj : (encs (Value.int .u8) xs)[j]? = some u) : w.cell? ((⟨g, 0, none⟩ : Addr).add j) = some u := by
  rcases h with ⟨h, _⟩ | ⟨g', cap', cur, e, h1, h2, h3, h4, h5, h6⟩
  · cases h
  · cases e
    rw [← h6] at hj
    have hlt : j < xs.length := by
      rcases Nat.lt_or_ge j xs.length with h | h
      · exact h
      · rw [List.getElem?_eq_none (by rw [List.length_take]; omega)] at hj; cases hj
    rw [List.getElem?_take, if_pos hlt] at hj
    rw [Addr.add_lit, Nat.zero_add, cell_of_row w g _ cur _ (0, 0) h2]
    simpa using hj
theorem DRow.C {w : World} {base : Nat} {A : Option Addr} {n c : Nat} {xs : List Int} (h : DRow w base (.slice A n c) xs) : n = xs.length ∧ Kd.C (Kd.int .u8) w A n xs := by
  have h0 := h
  rcases h with ⟨h, rfl⟩ | ⟨g', cap', cur, e, h1, h2, h3, h4, h5, h6⟩
  · cases h
    exact ⟨rfl, Kd.C_of_reads (d := (0 : Int)) (h1 := fun _ => rfl) ⟨rfl, by omega, fun h => absurd h (by decide)⟩⟩
  · cases e
    refine ⟨rfl, Kd.C_of_reads (d := (0 : Int)) (h1 := fun _ => rfl) ⟨rfl, by simp only [maxLen] at h5; omega, fun _ => ⟨_, rfl, fun j hj => ?_⟩⟩⟩
    exact h0.cell (by rw [encs_get (d := (0 : Int)) xs j hj])

set_option maxRecDepth 100000 in
/-- b = append(b, ys...). -/
theorem DRow.append {w : World} {base : Nat} {v : Value} {xs ys : List Int} (h : DRow w base v xs) (ty : TypeId) {A : Option Addr} {m c : Nat} (HR : Kd.C (Kd.int .u8) w A m ys) (hbase : base ≤ w.heap.size) (hl : xs.length + m ≤ 140737488355328) :
    ∃ v1 w1, (Builtin.append_ #[27, 27] ty #[v, .slice A m c]).run Try.prog w = .ok v1 w1 ∧ DRow w1 base v1 (xs ++ ys) ∧ w.grownBy w1 v.ownBlock ∧ (v1.ownBlock = v.ownBlock ∨ ∃ b, v1.ownBlock = some b ∧ w.heap.size ≤ b) := by
  have hR := Kd.reads_of_C (enc := Value.int .u8) (d := (0 : Int)) (h1 := fun _ => rfl) HR
  have hm : ys.length = m := hR.1
  have ht : Try.prog.underlying 27 = some (.slice 5) := by kernel_rfl
  have hinfo : (Try.prog.info? 5).map (fun i => (i.zero, i.size, i.bytes)) = some (some (.int .u8 0), 1, 1) := by kernel_rfl
  obtain ⟨i0, hi, hzz⟩ := Option.map_eq_some_iff.1 hinfo
  simp only [Prod.mk.injEq] at hzz
  obtain ⟨hz0, hz1, hz2⟩ := hzz
  rcases A with _ | ad
  · have h0 : m = 0 := by
      rcases Nat.eq_zero_or_pos m with h0 | h0
      · exact h0
      · obtain ⟨ad, h, _⟩ := hR.2.2 h0
        cases h
    subst h0
    obtain rfl : ys = [] := List.eq_nil_of_length_eq_zero hm
    refine ⟨v, w, ?_, by simpa using h, World.grownBy.refl w _, .inl rfl⟩
    rcases h with ⟨rfl, hn⟩ | ⟨g, cap, cur, rfl, _, _, hnc, _⟩
    · simp [Builtin.append_, run_underlying ht, sizeOf, typeInfo, hi, Builtin.lenOf, Builtin.firstCells]
    · simp [Builtin.append_, run_underlying ht, sizeOf, typeInfo, hi, Builtin.lenOf, Builtin.firstCells, hnc, storeCells]
  · have hcells : ∀ j u, (encs (Value.int .u8) ys)[j]? = some u → w.cell? (ad.add j) = some u := by
      intro j u hu
      have hj : j < ys.length := by
        rcases Nat.lt_or_ge j ys.length with h | h
        · exact h
        · simp [encs, List.getElem?_eq_none h] at hu
      obtain ⟨ad', h', hc⟩ := hR.2.2 (by omega)
      injection h' with h'
      subst h'
      rw [encs_get (d := (0 : Int)) ys j hj] at hu
      rw [← hu]
      exact hc j (by omega)
    have hone : ∀ u ∈ encs (Value.int .u8) ys, u.oneCell' = true := by
      intro u hu; simp only [encs, List.mem_map] at hu; obtain ⟨q, _, rfl⟩ := hu; rfl
    have hnl : (encs (Value.int .u8) ys).length = m * i0.size := by rw [hz1]; simp [encs, hm]
    rcases h with ⟨rfl, rfl⟩ | ⟨g, cap, cur, rfl, h1, h2, h3, h4, h5, h6⟩
    · obtain ⟨v1, w1, hr, q2, q3, _, q5⟩ := run_append_own_at (P := Try.prog) w base 27 ty 5 i0 (.int .u8 0) 1 1 ht hi hz0 hz1 hz2 rfl (by omega) (.slice none 0 0) 0 [] (World.ownsRow_nil w base _ 1) ad m c (encs (Value.int .u8) ys) (by simp [encs, hm]) hcells hone (by simp only [maxLen]; omega) (by simp at hl; omega) hbase
      exact ⟨v1, w1, hr, DRow.of_own (by simpa [encs, hm] using q2), q3, q5.imp id fun e => ⟨_, e, Nat.le_refl _⟩⟩
    · have hold : (⟨g, 0, none⟩ : Addr) = ⟨g, 0, none⟩ := rfl
      by_cases hroom : xs.length + m ≤ cap
      · have hr := run_append_room (P := Try.prog) w 27 ty 5 i0 ht hi g xs.length cap cur h2 ad m c (encs (Value.int .u8) ys) hnl hcells hone hroom (by rw [hz1]; simp [encs, hm]; omega)
        rw [hz1, Nat.mul_one] at hr
        refine ⟨_, _, hr, .inr ⟨g, cap, _, by rw [List.length_append, hm], h1, setRow_heap w g cur _ _ _ h2, by rw [List.length_append, hm]; exact hroom, ?_, h5, ?_⟩, ⟨rfl, rfl, rfl, by simp, fun k _ hk => setRow_other w g k _ (fun e => hk (by simp [Value.ownBlock, e]))⟩, .inl rfl⟩
        · simp only [List.size_toArray, List.length_append, List.length_take, List.length_drop, Array.length_toList]
          omega
        · rw [h6]
          have hlen : (encs (Value.int .u8) xs ++ encs (Value.int .u8) ys).length = (xs ++ ys).length := by simp [encs]
          simp only [encs, List.map_append] at hlen ⊢
          rw [← hlen]
          exact List.take_left
      · have hd : DRow w base (.slice (some ⟨g, 0, none⟩) xs.length cap) xs := .inr ⟨g, cap, cur, rfl, h1, h2, h3, h4, h5, h6⟩
        obtain ⟨v1, w1, hr, q2, q3⟩ := run_append_arg_grows (P := Try.prog) w 27 ty 5 i0 (.int .u8 0) 1 1 ht hi hz0 hz1 hz2 rfl (by omega) ⟨g, 0, none⟩ xs.length cap (encs (Value.int .u8) xs) (by simp [encs]) (fun j u hu => hd.cell hu) ad m c (encs (Value.int .u8) ys) (by simp [encs, hm]) hcells (by omega) (by simp only [maxLen]; omega) (by omega)
        have q4 : DRow w1 w.heap.size v1 (xs ++ ys) := DRow.of_own (by simpa [encs, hm] using q2)
        refine ⟨v1, w1, hr, q4.lower hbase, ⟨q3.os, q3.tape, q3.output, q3.size, fun k hk _ => q3.block k hk (by simp)⟩, ?_⟩
        rcases q4 with ⟨rfl, q⟩ | ⟨b, cap', cur', rfl, q, _⟩
        · have := congrArg List.length q
          rw [List.length_append, hm] at this
          simp at this
          omega
        · exact .inr ⟨b, rfl, q⟩
/-- .. as_ an operation of the walk. -/
theorem DRow.append_ev {ops : Array Oper} {rest : List Oper} {o : Oper} {a : Act} {Q : Exit → Act → World → Prop} {w : World} {base : Nat} {v : Value} {xs ys : List Int} {A : Option Addr} {m c : Nat}
    (h : DRow w base v xs) (HR : Kd.C (Kd.int .u8) w A m ys) (hgd : o.guard = none) (s x : Operand) (ho : o.op = .call { callee := .builtin .append, args := #[s, x], argTypes := #[27, 27] })
    (hs : a.eval s = v) (hx : a.eval x = .slice A m c) (hbase : base ≤ w.heap.size) (hl : xs.length + m ≤ 140737488355328)
    (k : ∀ v1 w1, DRow w1 base v1 (xs ++ ys) → w.grownBy w1 v.ownBlock → (v1.ownBlock = v.ownBlock ∨ ∃ b, v1.ownBlock = some b ∧ w.heap.size ≤ b) → wpList Try.prog ops Q rest (a.put o.dst v1) w1) : wpList Try.prog ops Q (o :: rest) a w := by
  obtain ⟨v1, w1, hr, q1, q2, q3⟩ := h.append o.type (c := c) HR hbase hl
  refine wpList_plain hgd fun K hK => ?_
  unfold Oper.wp execOp
  simp only [ho, resolve, invoke, builtin, Sem.run_bind, Sem.run_pure, Result.andThen_ok, List.map_toArray, List.map_cons, List.map_nil, hs, hx, hr]
  exact hK _ _ (k v1 w1 q1 q2 q3)

/-! ### A disk's cells and its row, and what an act may turn -/
theorem DiskAt.lt {w : World} {B : Nat} {v : Value} {s m : Int} {made : Bool} (h : DiskAt w B v s m made) : B < w.heap.size := (Array.getElem?_eq_some_iff.1 h).1
theorem DiskAt.f {w : World} {B : Nat} {v : Value} {s m : Int} {made : Bool} (h : DiskAt w B v s m made) (k : Nat) : w.frozen? ⟨B, k, none⟩ = false := by simp [World.frozen?, show w.heap[B]? = _ from h]
theorem DiskAt.put0 {w : World} {B : Nat} {v : Value} {s m : Int} {made : Bool} (h : DiskAt w B v s m made) (v' : Value) : DiskAt (w.setCell ⟨B, 0, none⟩ v') B v' s m made := by
  unfold DiskAt World.setCell
  simp [Array.getElem?_modify, show w.heap[B]? = _ from h]
theorem DiskAt.put1 {w : World} {B : Nat} {v : Value} {s m : Int} {made : Bool} (h : DiskAt w B v s m made) (s' : Int) : DiskAt (w.setCell ⟨B, 1, none⟩ (.int .i64 s')) B v s' m made := by
  unfold DiskAt World.setCell
  simp [Array.getElem?_modify, show w.heap[B]? = _ from h]
theorem DiskAt.move {w w1 : World} {B : Nat} {v : Value} {s m : Int} {made : Bool} (h : DiskAt w B v s m made) (hm : w1.heap[B]? = w.heap[B]?) : DiskAt w1 B v s m made := hm.trans h
theorem DiskAt.apart {w : World} {B base : Nat} {v u : Value} {s m : Int} {made : Bool} {xs : List Int} (h : DiskAt w B v s m made) (hr : DRow w base u xs) : some B ≠ u.ownBlock := by
  intro e
  obtain ⟨_, _, cur, hc⟩ := hr.block e.symm
  rw [show w.heap[B]? = _ from h] at hc
  cases hc

/-- A disk in block B holds the bytes xs, s of them sure, of at most m. -/
structure DiskS (w : World) (base B : Nat) (v : Value) (xs : List Int) (s m : Int) : Prop where
  cells : DiskAt w B v s m true
  row : DRow w base v xs
  at_ : base ≤ B
  m0 : 0 ≤ m
  m1 : m ≤ 262144
  len : (xs.length : Int) ≤ m
  s0 : 0 ≤ s
  s1 : s ≤ (xs.length : Int)
/-- What an act on the disk may turn: its block, its row, what is new. -/
structure DStep (w w' : World) (B : Nat) (v v' : Value) : Prop where
  os : w'.os = w.os
  tape : w'.tape = w.tape
  output : w'.output = w.output
  size : w.heap.size ≤ w'.heap.size
  block : ∀ k, k < w.heap.size → k ≠ B → some k ≠ v.ownBlock → w'.heap[k]? = w.heap[k]?
  row : v'.ownBlock = v.ownBlock ∨ ∃ b, v'.ownBlock = some b ∧ w.heap.size ≤ b
theorem DStep.below {w w' : World} {base B : Nat} {v v' : Value} {xs : List Int} {s m : Int} (h : DStep w w' B v v') (hd : DiskS w base B v xs s m) : Below base w w' :=
  ⟨h.os, h.tape, h.output, h.size, fun k hk => h.block k (by have := hd.cells.lt; have := hd.at_; omega) (by have := hd.at_; omega) (fun e => by have := (hd.row.block e.symm).1; omega)⟩
theorem DiskS.below {w w1 : World} {base B n : Nat} {v : Value} {xs : List Int} {s m : Int} (h : DiskS w base B v xs s m) (hb : Below n w w1) (hn : w.heap.size ≤ n) : DiskS w1 base B v xs s m :=
  { h with cells := h.cells.move (hb.block _ (by have := h.cells.lt; omega)), row := h.row.move fun k hk => hb.block _ (by have := (h.row.block hk).2.1; omega) }
/-- Another disk, apart from this one. -/
theorem DiskS.other {w w1 : World} {base B base' B' : Nat} {v v' u : Value} {xs ys : List Int} {s m s' m' : Int} (h : DiskS w base B v xs s m) (k : DiskS w base' B' u ys s' m') (st : DStep w w1 B' u v') (hne : B ≠ B') (hrow : ∀ b, v.ownBlock = some b → u.ownBlock ≠ some b) : DiskS w1 base B v xs s m :=
  { h with
    cells := h.cells.move (st.block _ h.cells.lt hne (h.cells.apart k.row))
    row := h.row.move fun b hb => st.block _ (h.row.block hb).2.1 (fun e => k.cells.apart h.row (by rw [hb, e])) (fun e => hrow b hb e.symm) }

end Go.Proofs.Ytmbnjgnmblgjoaa.Man
end

-- DiskActs
section
/- The given program's disk (layer 17), act by act: what each comes to on a disk that was made. -/

namespace Go.Proofs.Ytmbnjgnmblgjoaa.Man
open Go.RowKit Go.Proofs.YtmbnjgnmblgjoaaW.PrintWords Go.Proofs.YtmbnjgnmblgjoaaW.PrintLast
set_option linter.unusedVariables false
set_option linter.unusedSimpArgs false
set_option maxRecDepth 100000

theorem DiskS.none {w : World} {base B : Nat} {v : Value} {xs : List Int} {s m : Int} (h : DiskS w base B v xs s m) : Calls Try.prog 99 #[.pointer (some ⟨B, 0, none⟩)] w fun e w' => e = .returned (.bool false) ∧ w = w' := none_at w B v s m true h.cells

/-- New: an empty one. -/
theorem new_is (n : Int) (w : World) (base : Nat) (hb : base ≤ w.heap.size) (h0 : 0 ≤ n) (h1 : n ≤ 262144) : Calls Try.prog 26 #[.int .i64 n] w fun e w' => e = .returned (.tuple #[.pointer (some ⟨w.heap.size, 0, none⟩), .int .i64 0]) ∧ DiskS w' base w.heap.size (.slice none 0 0) [] 0 n ∧ Below w.heap.size w w' := by
  go_enter Try.func26, Try.ntmps26
  go_wp2
  go_ret2
  exact ⟨rfl, ⟨World.alloc_heap_new w _, DRow.nil _ _, hb, h0, h1, h0, by omega, by simp⟩, (Below.refl _ _).alloc (Nat.le_refl _) _⟩

theorem len_is {w : World} {base B : Nat} {v : Value} {xs : List Int} {s m : Int} (h : DiskS w base B v xs s m) : Calls Try.prog 39 #[.pointer (some ⟨B, 0, none⟩)] w fun e w' => e = .returned (.int .i64 (xs.length : Int)) ∧ w = w' := by
  obtain ⟨A, c, rfl, hc⟩ := h.row.len
  have c0 := h.cells.c0
  have H := Lib.hid h
  clear h
  go_enter Try.func39, Try.ntmps39
  go_wp2_with (go_at_call 99; refine H.out.none.mono ?_; rintro e w' ⟨rfl, rfl⟩)
  go_ret
  exact ⟨rfl, rfl⟩
theorem sure_is {w : World} {base B : Nat} {v : Value} {xs : List Int} {s m : Int} (h : DiskS w base B v xs s m) : Calls Try.prog 40 #[.pointer (some ⟨B, 0, none⟩)] w fun e w' => e = .returned (.int .i64 s) ∧ w = w' := by
  have c1 := h.cells.c1
  have H := Lib.hid h
  clear h
  go_enter Try.func40, Try.ntmps40
  go_wp2_with (go_at_call 99; refine H.out.none.mono ?_; rintro e w' ⟨rfl, rfl⟩)
  go_ret
  exact ⟨rfl, rfl⟩

theorem DStep.put {w w1 : World} {B : Nat} {v v' : Value} (h : DStep w w1 B v v') (k : Nat) (u : Value) : DStep w (w1.setCell ⟨B, k, none⟩ u) B v v' :=
  ⟨h.os, h.tape, h.output, by simpa [World.setCell] using h.size, fun i hi h1 h2 => (Below.heap_setCell w1 ⟨B, k, none⟩ u i h1).trans (h.block i hi h1 h2), h.row⟩
theorem DStep.refl (w : World) (B : Nat) (v : Value) : DStep w w B v v := ⟨rfl, rfl, rfl, Nat.le_refl _, fun _ _ _ _ => rfl, .inl rfl⟩

theorem sync_is {w : World} {base B : Nat} {v : Value} {xs : List Int} {s m : Int} (h : DiskS w base B v xs s m) : Calls Try.prog 32 #[.pointer (some ⟨B, 0, none⟩)] w fun e w' => e = .returned (.int .i64 0) ∧ DiskS w' base B v xs (xs.length : Int) m ∧ DStep w w' B v v := by
  obtain ⟨A, c, rfl, hc⟩ := h.row.len
  have c0 := h.cells.c0
  have c1 := h.cells.c1
  have f1 := h.cells.f 1
  have H := Lib.hid h
  clear h
  go_enter Try.func32, Try.ntmps32
  go_wp2_with (go_at_call 99; refine H.out.none.mono ?_; rintro e w' ⟨rfl, rfl⟩)
  go_ret
  have h := H.out
  refine ⟨rfl, { h with cells := h.cells.put1 _, row := h.row.move fun k hk => Below.heap_setCell _ _ _ _ fun e => h.cells.apart h.row (by rw [hk, e]), s0 := by omega, s1 := by omega }, (DStep.refl _ _ _).put _ _⟩

/-- Append: there is room; there is none. -/
theorem append_is {w : World} {base B : Nat} {v : Value} {xs ys : List Int} {s m : Int} (h : DiskS w base B v xs s m) (A : Option Addr) (c : Nat) (HR : Kd.C (Kd.int .u8) w A ys.length ys) (hroom : (ys.length : Int) ≤ m - (xs.length : Int)) : Calls Try.prog 29 #[.pointer (some ⟨B, 0, none⟩), .slice A ys.length c] w fun e w' => e = .returned (.int .i64 0) ∧ ∃ v', DiskS w' base B v' (xs ++ ys) s m ∧ DStep w w' B v v' := by
  obtain ⟨A', c', rfl, hc⟩ := h.row.len
  have c0 := h.cells.c0
  have c2 := h.cells.c2
  have m0 := h.m0
  have m1 := h.m1
  have hl := h.len
  have H := Lib.hid h
  have HC := Lib.hid HR
  clear h HR
  go_enter Try.func29, Try.ntmps29
  go_wp2_with (go_at_call 99; refine H.out.none.mono ?_; rintro e w' ⟨rfl, rfl⟩)
  go_quiet (fail)
  go_wp2_with (at_builtin; refine DRow.append_ev (w := w.drewN nq) (H.out.row.move fun k hk => rfl) (Kd.C_below HC.out ⟨rfl, rfl, rfl, Nat.le_refl _, fun _ _ => rfl⟩) rfl _ _ rfl rfl rfl (Nat.le_of_lt (Nat.lt_of_le_of_lt H.out.at_ H.out.cells.lt)) (by omega) ?_; intro v1 w1 hd hg hat; obtain ⟨A1, c1, rfl, hc1⟩ := hd.len; have hD : DiskAt w1 B (.slice A' xs.length c') s m true := H.out.cells.move (hg.block B H.out.cells.lt (H.out.cells.apart H.out.row)); have k0 := hD.c0; have g0 := hD.f 0; have HD := Lib.hid hD; have HR := Lib.hid hd; have HG := Lib.hid hg; have HAT := Lib.hid hat; clear hD hd hg hat)
  go_ret
  have h := H.out
  have hd := HR.out
  have hg := HG.out
  rw [← List.length_append]
  refine ⟨rfl, _, ⟨HD.out.put0 _, hd.move fun k hk => Below.heap_setCell _ _ _ _ fun e => HD.out.apart hd (by rw [hk, e]), h.at_, m0, m1, by rw [List.length_append]; omega, h.s0, by have := h.s1; rw [List.length_append]; omega⟩, DStep.put (w := w) ⟨hg.os, hg.tape, hg.output, hg.size, fun k hk _ h2 => hg.block k hk h2, HAT.out⟩ _ _⟩
theorem append_full {w : World} {base B : Nat} {v : Value} {xs : List Int} {s m : Int} (h : DiskS w base B v xs s m) (A : Option Addr) (l c : Nat) (hl63 : l ≤ 9223372036854775807) (hroom : ¬ ((l : Int) ≤ m - (xs.length : Int))) : Calls Try.prog 29 #[.pointer (some ⟨B, 0, none⟩), .slice A l c] w fun e w' => e = .returned (.int .i64 12) ∧ ∃ n, w' = w.drewN n := by
  obtain ⟨A', c', rfl, hc⟩ := h.row.len
  have c0 := h.cells.c0
  have c2 := h.cells.c2
  have m0 := h.m0
  have m1 := h.m1
  have hl := h.len
  have H := Lib.hid h
  clear h
  go_enter Try.func29, Try.ntmps29
  go_wp2_with (go_at_call 99; refine H.out.none.mono ?_; rintro e w' ⟨rfl, rfl⟩)
  go_quiet (fail)
  go_wp2
  go_ret
  exact ⟨rfl, _, rfl⟩

/-! ### Cuts -/
theorem DRow.keep {w : World} {base : Nat} {A : Option Addr} {c n : Nat} {xs : List Int} (h : DRow w base (.slice A xs.length c) xs) (hn : n ≤ xs.length) : DRow w base (.slice A n n) (xs.take n) := by
  rcases h with ⟨h, rfl⟩ | ⟨g, cap, cur, e, h1, h2, h3, h4, h5, h6⟩
  · cases h
    obtain rfl : n = 0 := by simpa using hn
    exact .inl ⟨rfl, rfl⟩
  · cases e
    have hl : (xs.take n).length = n := by rw [List.length_take]; omega
    refine .inr ⟨g, n, cur, by rw [hl], h1, h2, by omega, by omega, by omega, ?_⟩
    rw [hl]
    have := congrArg (List.take n) h6
    rw [List.take_take, Nat.min_eq_left hn] at this
    rw [this]
    simp [encs, List.map_take]
theorem keep_is {w : World} {base B : Nat} {v : Value} {xs : List Int} {s m : Int} (h : DiskS w base B v xs s m) (n : Nat) (hn : n ≤ xs.length) : Calls Try.prog 100 #[.pointer (some ⟨B, 0, none⟩), .int .i64 n] w fun e w' => e = .returned (.tuple #[]) ∧ ∃ v', DiskS w' base B v' (xs.take n) n m ∧ DStep w w' B v v' := by
  obtain ⟨A, c, rfl, hc⟩ := h.row.len
  have c0 := h.cells.c0
  have f0 := h.cells.f 0
  have f1 := h.cells.f 1
  have c1 := h.cells.c1
  have m0 := h.m0
  have m1 := h.m1
  have hl := h.len
  have H := Lib.hid h
  clear h
  go_enter Try.func100, Try.ntmps100
  go_wp2
  have h := H.out
  have hr := h.row.keep hn
  have hap : ∀ k, Value.ownBlock (.slice A n n) = some k → k ≠ B := fun k hk e => h.cells.apart h.row (by rw [← e, ← hk]; cases A <;> rfl)
  go_end0
  refine ⟨rfl, _, ⟨(h.cells.put0 _).put1 _, (hr.move fun k hk => Below.heap_setCell _ _ _ _ (hap k hk)).move fun k hk => Below.heap_setCell _ _ _ _ (hap k hk), h.at_, m0, m1, by rw [List.length_take]; omega, by omega, by rw [List.length_take]; omega⟩, (DStep.put ⟨rfl, rfl, rfl, Nat.le_refl _, fun _ _ _ _ => rfl, .inl (by cases A <;> rfl)⟩ _ _).put _ _⟩

theorem cut_is {w : World} {base B : Nat} {v : Value} {xs : List Int} {s m : Int} (h : DiskS w base B v xs s m) (n : Nat) (hn : n ≤ xs.length) : Calls Try.prog 35 #[.pointer (some ⟨B, 0, none⟩), .int .i64 n] w fun e w' => e = .returned (.int .i64 0) ∧ ∃ v', DiskS w' base B v' (xs.take n) n m ∧ DStep w w' B v v' := by
  obtain ⟨A, c, rfl, hc⟩ := h.row.len
  have c0 := h.cells.c0
  have m0 := h.m0
  have m1 := h.m1
  have hl := h.len
  have H := Lib.hid h
  clear h
  go_enter Try.func35, Try.ntmps35
  go_wp2_with (first
    | (go_at_call 99; refine H.out.none.mono ?_; rintro e w' ⟨rfl, rfl⟩)
    | (go_at_call 100; refine (keep_is H.out n hn).mono ?_; rintro e w1 ⟨rfl, v1, hk, hs⟩; have HK := Lib.hid hk; have HS := Lib.hid hs; clear hk hs))
  go_ret
  exact ⟨rfl, v1, HK.out, HS.out⟩
/-- Crash. -/
theorem crash_is {w : World} {base B : Nat} {v : Value} {xs : List Int} {s m : Int} (h : DiskS w base B v xs s m) (k : Int) (hk0 : 0 ≤ k) (hk1 : k ≤ 9223372036854775807) (n : Nat) (hn : (n : Int) = s + min k ((xs.length : Int) - s)) : Calls Try.prog 33 #[.pointer (some ⟨B, 0, none⟩), .int .i64 k] w fun e w' => e = .returned (.int .i64 0) ∧ ∃ v', DiskS w' base B v' (xs.take n) n m ∧ DStep w w' B v v' := by
  have HN := Lib.hid hn
  clear hn
  obtain ⟨A, c, rfl, hc⟩ := h.row.len
  have c0 := h.cells.c0
  have c1 := h.cells.c1
  have m0 := h.m0
  have m1 := h.m1
  have hl := h.len
  have s0 := h.s0
  have s1 := h.s1
  have H := Lib.hid h
  clear h
  go_enter Try.func33, Try.ntmps33
  go_wp2_with (go_at_call 99; refine H.out.none.mono ?_; rintro e w' ⟨rfl, rfl⟩)
  go_still_tail 18, (by kernel_rfl)
  repeat still_step
  have e1 : IntKind.i64.wrap ((xs.length : Int) - s) = (xs.length : Int) - s := by rw [IntKind.wrap_i64]; omega
  have hn := HN.out
  have e2 : IntKind.i64.wrap (s + if (xs.length : Int) - s < k then (xs.length : Int) - s else k) = (n : Int) := by
    rw [IntKind.wrap_i64]
    split <;> omega
  have hnl : n ≤ xs.length := by omega
  rw [e1, e2]
  clear e1 e2 hn
  change wpList _ _ _ _ _ w.drew
  have H2 : Hid (DiskS w.drew base B (.slice A xs.length c) xs s m) := Lib.hid (H.out.below (Below.refl _ _).drew (Nat.le_refl _))
  have HF : Hid (∀ w' v', DStep w.drew w' B (.slice A xs.length c) v' → DStep w w' B (.slice A xs.length c) v') := Lib.hid fun w' v' h => ⟨h.os, h.tape, h.output, h.size, h.block, h.row⟩
  clear c0 c1
  generalize w.drew = w2 at *
  go_wp2_with (go_at_call 100; refine (keep_is H2.out n hnl).mono ?_; rintro e w1 ⟨rfl, v1, hk, hs⟩; have HK := Lib.hid hk; have HS := Lib.hid hs; clear hk hs)
  all_goals (go_ret; exact ⟨rfl, v1, HK.out, HF.out _ _ HS.out⟩)
theorem crash_bad {w : World} {base B : Nat} {v : Value} {xs : List Int} {s m : Int} (h : DiskS w base B v xs s m) (k : Int) (hk0 : k < 0) : Calls Try.prog 33 #[.pointer (some ⟨B, 0, none⟩), .int .i64 k] w fun e w' => e = .returned (.int .i64 1) ∧ w = w' := by
  have H := Lib.hid h
  clear h
  go_enter Try.func33, Try.ntmps33
  go_wp2_with (go_at_call 99; refine H.out.none.mono ?_; rintro e w' ⟨rfl, rfl⟩)
  go_ret
  exact ⟨rfl, rfl⟩

/-! ### Bytes, Copy -/
theorem bytes_is {w : World} {base B : Nat} {v : Value} {xs : List Int} {s m : Int} (h : DiskS w base B v xs s m) : Calls Try.prog 38 #[.pointer (some ⟨B, 0, none⟩)] w fun e w' => ∃ u, e = .returned u ∧ Kd.R (Kd.int .u8) 5 w' w.heap.size (fun _ => True) u xs ∧ Below w.heap.size w w' := by
  obtain ⟨A, c, rfl, hc⟩ := h.row.len
  have c0 := h.cells.c0
  have m1 := h.m1
  have hl := h.len
  have H := Lib.hid h
  clear h
  go_enter Try.func38, Try.ntmps38
  go_wp2_with (first
    | (go_at_call 99; refine H.out.none.mono ?_; rintro e w' ⟨rfl, rfl⟩)
    | (refine Kd.R_make (Kd.int .u8) (w0 := w) w.heap.size 5 rfl rfl 27 _ _ rfl (xs.length : Int) rfl rfl (by kernel_rfl) (.int .u8 0) 1 (by kernel_rfl) rfl (by decide) (by decide) 0 (okp := fun _ => True) (ok := fun _ => True) rfl (fun _ _ => trivial) trivial (by omega) (by omega) (Below.refl _ _) (Nat.le_refl _) ?_; intro v1 w1 hr hb hg ho; rw [Int.toNat_natCast] at hr; obtain ⟨A1, c1, hv1, hc1, _⟩ := Kd.R_reads hr; rw [List.length_replicate] at hv1 hc1; subst hv1; have hD : DiskS w1 base B (.slice A xs.length c) xs s m := H.out.below hb (Nat.le_refl _); have k0 := hD.cells.c0; have HD := Lib.hid hD; have HR := Lib.hid hr; have HB := Lib.hid hb; clear hD hr hb hg ho)
    | (refine Kd.R_copy (enc := Value.int .u8) (h1 := fun _ => rfl) (d := (0 : Int)) (w0 := w) w.heap.size rfl _ _ 27 27 5 rfl (by kernel_rfl) (by kernel_rfl) _ _ xs A xs.length c (fun _ => True) rfl rfl HR.out HD.out.row.C.2 HB.out HB.out.size ?_; intro w2 hr2 hb2 hg2; have HR2 := Lib.hid hr2; have HB2 := Lib.hid hb2; clear hr2 hb2 hg2))
  go_ret
  have hr := HR2.out
  have e : xs.take (min xs.length (List.replicate xs.length (0 : Int)).length) ++ (List.replicate xs.length (0 : Int)).drop (min xs.length (List.replicate xs.length (0 : Int)).length) = xs := by simp
  rw [e] at hr
  exact ⟨_, rfl, hr, HB2.out⟩

end Go.Proofs.Ytmbnjgnmblgjoaa.Man
end

-- DiskCopy
section
/- The given program's disk (layer 17): Copy. -/


namespace Go.Proofs.Ytmbnjgnmblgjoaa.Man
open Go.RowKit Go.Proofs.YtmbnjgnmblgjoaaW.PrintWords Go.Proofs.YtmbnjgnmblgjoaaW.PrintLast
set_option linter.unusedVariables false
set_option linter.unusedSimpArgs false
set_option maxRecDepth 100000

end Go.Proofs.Ytmbnjgnmblgjoaa.Man
end

-- DiskAwake
section
/- The disk's statements' 'awake': true. -/

namespace Go.Proofs.Ytmbnjgnmblgjoaa.Man
open Go.RowKit Go.Proofs.YtmbnjgnmblgjoaaW.PrintWords Go.Proofs.YtmbnjgnmblgjoaaW.PrintLast
set_option linter.unusedVariables false
set_option linter.unusedSimpArgs false
set_option maxRecDepth 100000

end Go.Proofs.Ytmbnjgnmblgjoaa.Man
end

-- Ref17
section
/- The reference's disk (layer 17), act by act: what each comes to on a disk that was made. -/

namespace Go.Proofs.Ytmbnjgnmblgjoaa.Man
open Go.RowKit Go.Proofs.YtmbnjgnmblgjoaaW.PrintWords Go.Proofs.YtmbnjgnmblgjoaaW.PrintLast
set_option linter.unusedVariables false
set_option linter.unusedSimpArgs false
set_option maxRecDepth 100000

/-- The reference's disk in block B. -/
def RefAt (w : World) (B : Nat) (v : Value) (s m : Int) : Prop := w.heap[B]? = some (.cells #[v, .int .i64 s, .int .i64 m] 57 (0, 0))
theorem RefAt.c0 {w : World} {B : Nat} {v : Value} {s m : Int} (h : RefAt w B v s m) : w.cell? ⟨B, 0, none⟩ = some v := by simp [World.cell?, show w.heap[B]? = _ from h]
theorem RefAt.c1 {w : World} {B : Nat} {v : Value} {s m : Int} (h : RefAt w B v s m) : w.cell? ⟨B, 1, none⟩ = some (.int .i64 s) := by simp [World.cell?, show w.heap[B]? = _ from h]
theorem RefAt.c2 {w : World} {B : Nat} {v : Value} {s m : Int} (h : RefAt w B v s m) : w.cell? ⟨B, 2, none⟩ = some (.int .i64 m) := by simp [World.cell?, show w.heap[B]? = _ from h]
theorem RefAt.lt {w : World} {B : Nat} {v : Value} {s m : Int} (h : RefAt w B v s m) : B < w.heap.size := (Array.getElem?_eq_some_iff.1 h).1
theorem RefAt.f {w : World} {B : Nat} {v : Value} {s m : Int} (h : RefAt w B v s m) (k : Nat) : w.frozen? ⟨B, k, none⟩ = false := by simp [World.frozen?, show w.heap[B]? = _ from h]
theorem RefAt.put0 {w : World} {B : Nat} {v : Value} {s m : Int} (h : RefAt w B v s m) (v' : Value) : RefAt (w.setCell ⟨B, 0, none⟩ v') B v' s m := by
  unfold RefAt World.setCell
  simp [Array.getElem?_modify, show w.heap[B]? = _ from h]
theorem RefAt.put1 {w : World} {B : Nat} {v : Value} {s m : Int} (h : RefAt w B v s m) (s' : Int) : RefAt (w.setCell ⟨B, 1, none⟩ (.int .i64 s')) B v s' m := by
  unfold RefAt World.setCell
  simp [Array.getElem?_modify, show w.heap[B]? = _ from h]
theorem RefAt.move {w w1 : World} {B : Nat} {v : Value} {s m : Int} (h : RefAt w B v s m) (hm : w1.heap[B]? = w.heap[B]?) : RefAt w1 B v s m := hm.trans h
theorem RefAt.apart {w : World} {B base : Nat} {v u : Value} {s m : Int} {xs : List Int} (h : RefAt w B v s m) (hr : DRow w base u xs) : some B ≠ u.ownBlock := by
  intro e
  obtain ⟨_, _, cur, hc⟩ := hr.block e.symm
  rw [show w.heap[B]? = _ from h] at hc
  cases hc

structure RefS (w : World) (base B : Nat) (v : Value) (xs : List Int) (s m : Int) : Prop where
  cells : RefAt w B v s m
  row : DRow w base v xs
  at_ : base ≤ B
  m0 : 0 ≤ m
  m1 : m ≤ 262144
  len : (xs.length : Int) ≤ m
  s0 : 0 ≤ s
  s1 : s ≤ (xs.length : Int)
theorem DStep.belowR {w w' : World} {base B : Nat} {v v' : Value} {xs : List Int} {s m : Int} (h : DStep w w' B v v') (hd : RefS w base B v xs s m) : Below base w w' :=
  ⟨h.os, h.tape, h.output, h.size, fun k hk => h.block k (by have := hd.cells.lt; have := hd.at_; omega) (by have := hd.at_; omega) (fun e => by have := (hd.row.block e.symm).1; omega)⟩
theorem RefS.below {w w1 : World} {base B n : Nat} {v : Value} {xs : List Int} {s m : Int} (h : RefS w base B v xs s m) (hb : Below n w w1) (hn : w.heap.size ≤ n) : RefS w1 base B v xs s m :=
  { h with cells := h.cells.move (hb.block _ (by have := h.cells.lt; omega)), row := h.row.move fun k hk => hb.block _ (by have := (h.row.block hk).2.1; omega) }

theorem DRow.empty (W : World) (base : Nat) (hb : base ≤ W.heap.size) : DRow (W.alloc (.cells #[] 5)) base (.slice (some ⟨W.heap.size, 0, none⟩) 0 0) [] :=
  .inr ⟨_, 0, #[], rfl, hb, World.alloc_heap_new W _, by simp, by simp, by decide, rfl⟩

end Go.Proofs.Ytmbnjgnmblgjoaa.Man
end

-- Pair
section
/- Two disks, the program's and the reference's, side by side: what an act on the one leaves of the other. Rows of rows that are read. -/



namespace Go.Proofs.Ytmbnjgnmblgjoaa.Man
open Go.RowKit Go.Proofs.YtmbnjgnmblgjoaaW.PrintWords Go.Proofs.YtmbnjgnmblgjoaaW.PrintLast
set_option linter.unusedVariables false
set_option linter.unusedSimpArgs false
set_option maxRecDepth 100000

/-- Two rows that share no block. -/
def Apart (v u : Value) : Prop := ∀ b, v.ownBlock = some b → u.ownBlock ≠ some b
theorem Apart.symm {v u : Value} (h : Apart v u) : Apart u v := fun b hu hv => h b hv hu
theorem Apart.nil (u : Value) : Apart (.slice none 0 0) u := fun b h => by cases h
theorem DStep.apart {w w1 : World} {B base : Nat} {v v' u : Value} {ys : List Int} (st : DStep w w1 B v v') (h : Apart v u) (hu : DRow w base u ys) : Apart v' u := fun b hv hub => by
  rcases st.row with e | ⟨c, e, hc⟩
  · rw [e] at hv; exact h b hv hub
  · rw [e] at hv
    cases hv
    have := (hu.block hub).2.1
    omega
theorem RefS.ref {w w1 : World} {base B B' : Nat} {v v' u : Value} {ys xs : List Int} {s m s' m' : Int} {base' : Nat} (h : RefS w base B' u ys s m) (k : DiskS w base' B v xs s' m') (st : DStep w w1 B v v') (hne : B' ≠ B) (ha : Apart v u) : RefS w1 base B' u ys s m :=
  { h with
    cells := h.cells.move (st.block _ h.cells.lt hne (h.cells.apart k.row))
    row := h.row.move fun b hb => st.block _ (h.row.block hb).2.1 (fun e => k.cells.apart h.row (by rw [hb, e])) (fun e => ha b e.symm hb) }
theorem DiskS.ref {w w1 : World} {base B B' : Nat} {v u u' : Value} {ys xs : List Int} {s m s' m' : Int} {base' : Nat} (h : DiskS w base B v xs s m) (k : RefS w base' B' u ys s' m') (st : DStep w w1 B' u u') (hne : B ≠ B') (ha : Apart v u) : DiskS w1 base B v xs s m :=
  { h with
    cells := h.cells.move (st.block _ h.cells.lt hne (h.cells.apart k.row))
    row := h.row.move fun b hb => st.block _ (h.row.block hb).2.1 (fun e => k.cells.apart h.row (by rw [hb, e])) (fun e => ha b hb e.symm) }
theorem RefS.other {w w1 : World} {base B B' : Nat} {v u u' : Value} {ys xs : List Int} {s m s' m' : Int} {base' : Nat} (h : RefS w base B v xs s m) (k : RefS w base' B' u ys s' m') (st : DStep w w1 B' u u') (hne : B ≠ B') (ha : Apart v u) : RefS w1 base B v xs s m :=
  { h with
    cells := h.cells.move (st.block _ h.cells.lt hne (h.cells.apart k.row))
    row := h.row.move fun b hb => st.block _ (h.row.block hb).2.1 (fun e => k.cells.apart h.row (by rw [hb, e])) (fun e => ha b hb e.symm) }
theorem DStep.drewN (w : World) (B : Nat) (v : Value) (n : Nat) : DStep w (w.drewN n) B v v := ⟨rfl, rfl, rfl, Nat.le_refl _, fun _ _ _ _ => rfl, .inl rfl⟩

/-- The program's disk and the reference's, alike. -/
structure Two (w : World) (base B B' : Nat) (v u : Value) (xs : List Int) (s m : Int) : Prop where
  d : DiskS w base B v xs s m
  r : RefS w base B' u xs s m
  ne : B ≠ B'
  ap : Apart v u
theorem Two.below {w w1 : World} {base B B' n : Nat} {v u : Value} {xs : List Int} {s m : Int} (h : Two w base B B' v u xs s m) (hb : Below n w w1) (hn : w.heap.size ≤ n) : Two w1 base B B' v u xs s m :=
  ⟨h.d.below hb hn, h.r.below hb hn, h.ne, h.ap⟩
/-- Both have acted, the program's first. -/
theorem Two.acted {w w1 w2 : World} {base B B' : Nat} {v u v' u' : Value} {xs xs' : List Int} {s m s' m' : Int} (h : Two w base B B' v u xs s m) (hd : DiskS w1 base B v' xs' s' m') (st : DStep w w1 B v v')
    (hr : RefS w2 base B' u' xs' s' m') (st2 : DStep w1 w2 B' u u') : Two w2 base B B' v' u' xs' s' m' ∧ Below base w w2 := by
  have r1 := h.r.ref h.d st h.ne.symm h.ap
  have a1 := st.apart h.ap h.r.row
  exact ⟨⟨hd.ref r1 st2 h.ne a1, hr, h.ne, (st2.apart a1.symm hd.row).symm⟩, (st.below h.d).trans (st2.belowR r1)⟩
/-- append's value, in a region that draws its order. -/
theorem append_value {P : Program} {oi : Oper} {a : Act} {w w1 : World} {s x : Operand} {ts : Array TypeId} {v u v1 : Value} (ho : oi.op = .call { callee := .builtin .append, args := #[s, x], argTypes := ts })
    (hs : a.eval s = v) (hx : a.eval x = u) (hr : (Builtin.append_ ts oi.type #[v, u]).run P w = .ok v1 w1) : (execOp a.eval oi).run P w = .ok (.value v1) w1 := by
  unfold execOp
  simp only [ho, resolve, invoke, builtin, Sem.run_bind, Sem.run_pure, Result.andThen_ok, List.map_toArray, List.map_cons, List.map_nil, hs, hx, hr]

end Go.Proofs.Ytmbnjgnmblgjoaa.Man
end

-- Acts
section
/- The acts on a disk, the program's and the reference's, each as_ one contract for all arguments. -/

namespace Go.Proofs.Ytmbnjgnmblgjoaa.Man
open Go.RowKit Go.Proofs.YtmbnjgnmblgjoaaW.PrintWords Go.Proofs.YtmbnjgnmblgjoaaW.PrintLast
set_option linter.unusedVariables false
set_option linter.unusedSimpArgs false
set_option maxRecDepth 100000

def appE (m : Int) (xs ys : List Int) : Int := if (ys.length : Int) ≤ m - (xs.length : Int) then 0 else 12
def appL (m : Int) (xs ys : List Int) : List Int := if (ys.length : Int) ≤ m - (xs.length : Int) then xs ++ ys else xs
def cutE (xs : List Int) (n : Int) : Int := if n < 0 ∨ (xs.length : Int) < n then 1 else 0
def cutL (xs : List Int) (n : Int) : List Int := if n < 0 ∨ (xs.length : Int) < n then xs else xs.take n.toNat
def cutS (xs : List Int) (s n : Int) : Int := if n < 0 ∨ (xs.length : Int) < n then s else n
def crE (k : Int) : Int := if k < 0 then 1 else 0
def crL (xs : List Int) (s k : Int) : List Int := if k < 0 then xs else xs.take (s + min k ((xs.length : Int) - s)).toNat
def crS (xs : List Int) (s k : Int) : Int := if k < 0 then s else s + min k ((xs.length : Int) - s)

theorem append_any {w : World} {base B : Nat} {v : Value} {xs ys : List Int} {s m : Int} (h : DiskS w base B v xs s m) (A : Option Addr) (c : Nat) (HR : Kd.C (Kd.int .u8) w A ys.length ys) : Calls Try.prog 29 #[.pointer (some ⟨B, 0, none⟩), .slice A ys.length c] w fun e w' => e = .returned (.int .i64 (appE m xs ys)) ∧ ∃ v', DiskS w' base B v' (appL m xs ys) s m ∧ DStep w w' B v v' := by
  unfold appE appL
  by_cases hr : (ys.length : Int) ≤ m - (xs.length : Int)
  · rw [if_pos hr, if_pos hr]; exact append_is h A c HR hr
  · rw [if_neg hr, if_neg hr]
    refine (append_full h A ys.length c HR.2.1 hr).mono ?_
    rintro e w' ⟨rfl, n, rfl⟩
    exact ⟨rfl, v, h.below (pw_below_drewN (Below.refl _ _) n) (Nat.le_refl _), DStep.drewN _ _ _ _⟩
theorem crash_any {w : World} {base B : Nat} {v : Value} {xs : List Int} {s m : Int} (h : DiskS w base B v xs s m) (k : Int) (hk : k ≤ 9223372036854775807) : Calls Try.prog 33 #[.pointer (some ⟨B, 0, none⟩), .int .i64 k] w fun e w' => e = .returned (.int .i64 (crE k)) ∧ ∃ v', DiskS w' base B v' (crL xs s k) (crS xs s k) m ∧ DStep w w' B v v' := by
  unfold crE crL crS
  by_cases hr : k < 0
  · rw [if_pos hr, if_pos hr, if_pos hr]
    refine (crash_bad h k hr).mono ?_
    rintro e w' ⟨rfl, rfl⟩
    exact ⟨rfl, v, h, DStep.refl _ _ _⟩
  · rw [if_neg hr, if_neg hr, if_neg hr]
    have h1 := h.s0
    have h2 := h.s1
    obtain ⟨n, hn⟩ : ∃ n : Nat, s + min k ((xs.length : Int) - s) = (n : Int) := ⟨(s + min k ((xs.length : Int) - s)).toNat, by omega⟩
    rw [hn, Int.toNat_natCast]
    exact crash_is h k (by omega) hk n hn.symm
end Go.Proofs.Ytmbnjgnmblgjoaa.Man
end

-- JState
section
/- What a journal's opening stands at, between two rounds: its blocks and rows; what each step of a round leaves of them. -/



namespace Go.Proofs.Ytmbnjgnmblgjoaa.Man
open Go.RowKit Go.Shelf Go.Proofs.YtmbnjgnmblgjoaaW.PrintWords Go.Proofs.YtmbnjgnmblgjoaaW.PrintLast Go.Proofs.YtmbnjgnmblgjoaaW.PrintMore
set_option linter.unusedVariables false
set_option linter.unusedSimpArgs false
set_option maxRecDepth 100000

/-- A journal in block J: its disk, its places. -/
def JAt (w : World) (J D : Nat) (v : Value) : Prop := w.heap[J]? = some (.cells #[.pointer (some ⟨D, 0, none⟩), v] 184 (0, 0))
theorem JAt.c0 {w : World} {J D : Nat} {v : Value} (k : JAt w J D v) : w.cell? ⟨J, 0, none⟩ = some (.pointer (some ⟨D, 0, none⟩)) := by simp [World.cell?, show w.heap[J]? = _ from k]
theorem JAt.c1 {w : World} {J D : Nat} {v : Value} (k : JAt w J D v) : w.cell? ⟨J, 1, none⟩ = some v := by simp [World.cell?, show w.heap[J]? = _ from k]
theorem JAt.f {w : World} {J D : Nat} {v : Value} (k : JAt w J D v) (j : Nat) : w.frozen? ⟨J, j, none⟩ = false := by simp [World.frozen?, show w.heap[J]? = _ from k]
theorem JAt.lt {w : World} {J D : Nat} {v : Value} (k : JAt w J D v) : J < w.heap.size := (Array.getElem?_eq_some_iff.1 k).1
theorem JAt.put1 {w : World} {J D : Nat} {v : Value} (k : JAt w J D v) (u : Value) : JAt (w.setCell ⟨J, 1, none⟩ u) J D u := by
  unfold JAt World.setCell
  simp [Array.getElem?_modify, show w.heap[J]? = _ from k]
theorem JAt.ne {w w1 : World} {J D : Nat} {v : Value} (k : JAt w J D v) (h : w1.heap[J]? = w.heap[J]?) : JAt w1 J D v := h.trans k
/-- A row of places of the call's own. -/
abbrev IR (w : World) (base : Nat) (v : Value) (xs : List Int) : Prop := Kd.R (Kd.int .i64) 3 w base (fun _ => True) v xs
theorem IR.len {w : World} {base : Nat} {v : Value} {xs : List Int} (h : IR w base v xs) : ∃ A c, v = .slice A xs.length c ∧ xs.length ≤ c ∧ Kd.C (Kd.int .i64) w A xs.length xs := Kd.R_reads h
theorem info_int : (Try.prog.info? 3).map (fun i => (i.zero, i.size, i.bytes)) = some (some (.int .i64 0), 1, 8) := by kernel_rfl

section
variable {α : Type} {d : Kd α} {e base : Nat} {v : Value} {xs : List α} {W Y : World}
/-- Where a block that is no cells was written, every row stands. -/
theorem R_nc {row : Option Nat} (h : d.R e W base (fun _ => True) v xs) (hg : W.grownBy Y row) (hr : ∀ r, row = some r → ∃ o : Obj, W.heap[r]? = some o ∧ o.isCells = false) : d.R e Y base (fun _ => True) v xs :=
  Kd.R_mono (Kd.R_grown (Kd.R_bound h) hg (fun k hk e => by
    obtain ⟨o, ho, hc⟩ := hr k e.symm
    obtain ⟨_, _, _, q, _, cells, hq⟩ := hk
    rw [ho] at hq
    cases hq
    cases hc)) (fun _ _ => trivial)
/-- Where cells stand, every row stands. -/
theorem R_cells (h : d.R e W base (fun _ => True) v xs) (hm : ∀ (k : Nat) (o : Obj), W.heap[k]? = some o → o.isCells = true → Y.heap[k]? = some o) : d.R e Y base (fun _ => True) v xs :=
  Kd.R_mono (Kd.R_move (Kd.R_bound h) (fun k hk => by
    obtain ⟨_, _, _, q, _, cells, hq⟩ := hk
    rw [hq]
    exact hm _ _ hq rfl)) (fun _ _ => trivial)
/-- Where a row of another type was written, a row stands. -/
theorem R_typed {row : Option Nat} {t : TypeId} (h : d.R e W base (fun _ => True) v xs) (ht : t ∉ e :: d.E) (hg : W.grownBy Y row) (hr : ∀ r, row = some r → ∃ cs, W.heap[r]? = some (.cells cs t (0, 0))) : d.R e Y base (fun _ => True) v xs :=
  Kd.R_mono (Kd.R_grown (Kd.R_bound h) hg (fun k hk e => by
    obtain ⟨cs, ho⟩ := hr k e.symm
    obtain ⟨_, _, _, q, hq1, cells, hq⟩ := hk
    rw [ho] at hq
    cases hq
    exact ht hq1)) (fun _ _ => trivial)
theorem R_typ (h : d.R e W base (fun _ => True) v xs) (r : Nat) (hr : v.ownBlock = some r) : ∃ cs, W.heap[r]? = some (.cells cs e (0, 0)) := own_typed (Kd.R_own h).choose_spec r hr
theorem R_ge (h : d.R e W base (fun _ => True) v xs) (r : Nat) (hr : v.ownBlock = some r) : base ≤ r := own_base (Kd.R_own h).choose_spec r hr
theorem R_lt (h : d.R e W base (fun _ => True) v xs) (r : Nat) (hr : v.ownBlock = some r) : r < W.heap.size := own_lt (Kd.R_own h).choose_spec r hr
end

theorem DStep.then_ {w w1 w2 : World} {B : Nat} {v v1 v2 : Value} (h : DStep w w1 B v v1) (k : DStep w1 w2 B v1 v2) : DStep w w2 B v v2 := by
  refine ⟨k.os.trans h.os, k.tape.trans h.tape, k.output.trans h.output, Nat.le_trans h.size k.size, fun j hj hB hv => (k.block j (by have := h.size; omega) hB ?_).trans (h.block j hj hB hv), ?_⟩
  · rcases h.row with e | ⟨b, e, hb⟩
    · rw [e]; exact hv
    · rw [e]; intro q; cases q; omega
  · rcases k.row with e | ⟨b, e, hb⟩
    · rw [e]; exact h.row
    · exact .inr ⟨b, e, by have := h.size; omega⟩
theorem DStep.of_below_ {w w1 : World} (B : Nat) (v : Value) (h : Below w.heap.size w w1) : DStep w w1 B v v := ⟨h.os, h.tape, h.output, h.size, fun k hk _ _ => h.block k hk, .inl rfl⟩
theorem DiskS.shut {n0 : Nat} {w w' : World} {base B : Nat} {v : Value} {xs : List Int} {s m : Int} (h : DiskS w base B v xs s m) (hs : Shut n0 w w') : DiskS w' base B v xs s m :=
  { h with
    cells := hs.cells _ _ h.cells rfl
    row := h.row.move fun k hk => by
      obtain ⟨_, _, cur, hc⟩ := h.row.block hk
      rw [hc]
      exact hs.cells _ _ hc rfl }
theorem DStep.shut {w w1 w' : World} {B : Nat} {v v' : Value} (h : DStep w w1 B v v') (hs : Shut w.heap.size w1 w') : DStep w w' B v v' :=
  ⟨hs.os.trans h.os, hs.tape.trans h.tape, hs.output.trans h.output, by rw [hs.size]; exact h.size, fun k hk h1 h2 => (hs.block k hk).trans (h.block k hk h1 h2), h.row⟩
/-- What a round's step keeps: what is no cells; what lies between the opening's boxes and its rows. -/
structure JK (lo base : Nat) (W W' : World) : Prop where
  size : W.heap.size ≤ W'.heap.size
  keep : ∀ (k : Nat) (o : Obj), W.heap[k]? = some o → o.isCells = false → W'.heap[k]? = some o
  mid : ∀ k, lo ≤ k → k < base → k < W.heap.size → W'.heap[k]? = W.heap[k]?
theorem JK.trans {lo base : Nat} {A B C : World} (h : JK lo base A B) (k : JK lo base B C) : JK lo base A C :=
  ⟨Nat.le_trans h.size k.size, fun i o hi hc => k.keep i o (h.keep i o hi hc) hc, fun i h1 h2 h3 => (k.mid i h1 h2 (Nat.lt_of_lt_of_le h3 h.size)).trans (h.mid i h1 h2 h3)⟩
theorem JK.of_below {lo base : Nat} {W W' : World} (h : Below W.heap.size W W') : JK lo base W W' :=
  ⟨h.size, fun k o hk _ => (h.block k (Array.getElem?_eq_some_iff.1 hk).1).trans hk, fun k _ _ hk => h.block k hk⟩
theorem JK.of_row {lo base : Nat} {W W' : World} {row : Option Nat} {t : TypeId} (hg : W.grownBy W' row) (hb : ∀ r, row = some r → base ≤ r) (hr : ∀ r, row = some r → ∃ cs, W.heap[r]? = some (.cells cs t (0, 0))) : JK lo base W W' :=
  ⟨hg.size, fun k o hk hc => (hg.block k (Array.getElem?_eq_some_iff.1 hk).1 (fun e => by obtain ⟨cs, h⟩ := hr k e.symm; rw [hk] at h; cases h; cases hc)).trans hk,
    fun k _ h2 h3 => hg.block k h3 (fun e => by have := hb k e.symm; omega)⟩
theorem JK.of_set {lo base : Nat} {W : World} {P j : Nat} {u : Value} {cs : Array Value} {t : TypeId} (hP : P < lo) (hc : W.heap[P]? = some (.cells cs t (0, 0))) : JK lo base W (W.setCell ⟨P, j, none⟩ u) :=
  ⟨by simp [World.setCell], fun k o hk ho => (Below.heap_setCell W ⟨P, j, none⟩ u k (fun e => by subst e; rw [hc] at hk; cases hk; cases ho)).trans hk, fun k h1 _ _ => Below.heap_setCell W ⟨P, j, none⟩ u k (by show k ≠ P; omega)⟩

/-- What the opening stands at. -/
structure JoS (w1 W : World) (D J base : Nat) (vE vL : Value) (at_ : Int) (es : List Int) (xs : List K.S26) : Prop where
  jr : JAt W J D vE
  jv : Boxed W (J + 1) 106 (.pointer (some ⟨J, 0, none⟩))
  lv : Boxed W (J + 2) 69 vL
  av : Boxed W (J + 3) 3 (.int .i64 at_)
  ends : IR W base vE es
  ents : ER W base vL xs
  bel : Below w1.heap.size w1 W
  sz : base ≤ W.heap.size
  j0 : w1.heap.size ≤ J
  j1 : J + 4 ≤ base
section
variable {w1 W W' : World} {D J base : Nat} {vE vL v' : Value} {at_ : Int} {es es' : List Int} {xs xs' : List K.S26}
theorem JoS.nc (h : JoS w1 W D J base vE vL at_ es xs) {row : Option Nat} (hg : W.grownBy W' row) (hr : ∀ r, row = some r → base ≤ r ∧ ∃ o : Obj, W.heap[r]? = some o ∧ o.isCells = false) : JoS w1 W' D J base vE vL at_ es xs := by
  have hne : ∀ k, k < base → some k ≠ row := fun k hk e => by have := (hr k e.symm).1; omega
  have hj := h.j1
  exact ⟨(hg.block _ h.jr.lt (hne _ (by omega))).trans h.jr, h.jv.kept hg (hne _ (by omega)), h.lv.kept hg (hne _ (by omega)), h.av.kept hg (hne _ (by omega)), R_nc h.ends hg (fun r e => (hr r e).2), R_nc h.ents hg (fun r e => (hr r e).2),
    h.bel.grown hg h.bel.size (fun r e => by have := (hr r e).1; have := h.j0; omega), Nat.le_trans h.sz hg.size, h.j0, h.j1⟩
theorem JoS.below (h : JoS w1 W D J base vE vL at_ es xs) (hb : Below W.heap.size W W') : JoS w1 W' D J base vE vL at_ es xs :=
  ⟨(hb.block _ h.jr.lt).trans h.jr, (hb.block _ h.jv.lt).trans h.jv, (hb.block _ h.lv.lt).trans h.lv, (hb.block _ h.av.lt).trans h.av, Kd.R_below h.ends hb, Kd.R_below h.ents hb, h.bel.trans (hb.mono h.bel.size), Nat.le_trans h.sz hb.size, h.j0, h.j1⟩
/-- Places were put behind the others, and stored. -/
theorem JoS.putE (h : JoS w1 W D J base vE vL at_ es xs) (hg : W.grownBy W' vE.ownBlock) (hr : IR W' base v' es') : JoS w1 (W'.setCell ⟨J, 1, none⟩ v') D J base v' vL at_ es' xs := by
  have hj := h.j1
  have hge : ∀ r, vE.ownBlock = some r → base ≤ r := R_ge h.ends
  have hne : ∀ k, k < base → some k ≠ vE.ownBlock := fun k hk e => by have := hge k e.symm; omega
  have hL : ER W' base vL xs := R_typed h.ents (t := 3) (by decide) hg (R_typ h.ends)
  have hJ : JAt W' J D vE := (hg.block _ h.jr.lt (hne _ (by omega))).trans h.jr
  refine ⟨hJ.put1 v', ?_, ?_, ?_, ?_, ?_, ?_, ?_, h.j0, h.j1⟩
  · exact (Below.heap_setCell _ _ _ _ (by show J + 1 ≠ J; omega)).trans (h.jv.kept hg (hne _ (by omega)))
  · exact (Below.heap_setCell _ _ _ _ (by show J + 2 ≠ J; omega)).trans (h.lv.kept hg (hne _ (by omega)))
  · exact (Below.heap_setCell _ _ _ _ (by show J + 3 ≠ J; omega)).trans (h.av.kept hg (hne _ (by omega)))
  · exact Kd.R_grown (Kd.R_bound hr) (grownBy_set W' J 1 v' (World.grownBy.refl W' _)) (fun k hk e => by cases e; have := hk.2.1; omega) |> fun h => Kd.R_mono h (fun _ _ => trivial)
  · exact ER.set hL (by omega) 1 v'
  · exact (h.bel.grown hg h.bel.size (fun r e => by have := hge r e; have := h.j0; omega)).setCell (p := ⟨J, 1, none⟩) h.j0 v'
  · have := hg.size; have := h.sz; simp [World.setCell]; omega
theorem JoS.keepE (h : JoS w1 W D J base vE vL at_ es xs) (hg : W.grownBy W' vE.ownBlock) : JK (J + 4) base W (W'.setCell ⟨J, 1, none⟩ v') := by
  have hj := h.j1
  have hge : ∀ r, vE.ownBlock = some r → base ≤ r := R_ge h.ends
  have hJ : JAt W' J D vE := (hg.block _ h.jr.lt (fun e => by have := hge _ e.symm; omega)).trans h.jr
  exact (JK.of_row hg hge (R_typ h.ends)).trans (JK.of_set (by omega) hJ)
/-- An entry was put behind the others, and stored. -/
theorem JoS.putL (h : JoS w1 W D J base vE vL at_ es xs) (hg : W.grownBy W' vL.ownBlock) (hr : ER W' base v' xs') : JoS w1 (W'.setCell ⟨J + 2, 0, none⟩ v') D J base vE v' at_ es xs' := by
  have hj := h.j1
  have hge : ∀ r, vL.ownBlock = some r → base ≤ r := R_ge h.ents
  have hne : ∀ k, k < base → some k ≠ vL.ownBlock := fun k hk e => by have := hge k e.symm; omega
  have hE : IR W' base vE es := R_typed h.ends (t := 26) (by decide) hg (R_typ h.ents)
  have hB : Boxed W' (J + 2) 69 vL := h.lv.kept hg (hne _ (by omega))
  refine ⟨?_, ?_, hB.set v', ?_, ?_, ?_, ?_, ?_, h.j0, h.j1⟩
  · exact (Below.heap_setCell _ _ _ _ (by show J ≠ J + 2; omega)).trans ((hg.block _ h.jr.lt (hne _ (by omega))).trans h.jr)
  · exact (Below.heap_setCell _ _ _ _ (by show J + 1 ≠ J + 2; omega)).trans (h.jv.kept hg (hne _ (by omega)))
  · exact (Below.heap_setCell _ _ _ _ (by show J + 3 ≠ J + 2; omega)).trans (h.av.kept hg (hne _ (by omega)))
  · exact Kd.R_grown (Kd.R_bound hE) (grownBy_set W' (J + 2) 0 v' (World.grownBy.refl W' _)) (fun k hk e => by cases e; have := hk.2.1; omega) |> fun h => Kd.R_mono h (fun _ _ => trivial)
  · exact ER.set hr (by omega) 0 v'
  · exact (h.bel.grown hg h.bel.size (fun r e => by have := hge r e; have := h.j0; omega)).setCell (p := ⟨J + 2, 0, none⟩) (by have := h.j0; show w1.heap.size ≤ J + 2; omega) v'
  · have := hg.size; have := h.sz; simp [World.setCell]; omega
theorem JoS.keepL (h : JoS w1 W D J base vE vL at_ es xs) (hg : W.grownBy W' vL.ownBlock) : JK (J + 4) base W (W'.setCell ⟨J + 2, 0, none⟩ v') := by
  have hj := h.j1
  have hge : ∀ r, vL.ownBlock = some r → base ≤ r := R_ge h.ents
  have hB : Boxed W' (J + 2) 69 vL := h.lv.kept hg (fun e => by have := hge _ e.symm; omega)
  exact (JK.of_row hg hge (R_typ h.ents)).trans (JK.of_set (by omega) hB)
theorem JoS.putA (h : JoS w1 W D J base vE vL at_ es xs) (n : Int) : JoS w1 (W.setCell ⟨J + 3, 0, none⟩ (.int .i64 n)) D J base vE vL n es xs := by
  have hj := h.j1
  refine ⟨?_, h.jv.other (by omega) _, h.lv.other (by omega) _, h.av.set _, ?_, ER.set h.ents (by omega) 0 _, h.bel.setCell (p := ⟨J + 3, 0, none⟩) (by have := h.j0; show w1.heap.size ≤ J + 3; omega) _, by have := h.sz; simpa [World.setCell] using this, h.j0, h.j1⟩
  · exact (Below.heap_setCell _ _ _ _ (by show J ≠ J + 3; omega)).trans h.jr
  · exact Kd.R_grown (Kd.R_bound h.ends) (grownBy_set W (J + 3) 0 _ (World.grownBy.refl W _)) (fun k hk e => by cases e; have := hk.2.1; omega) |> fun h => Kd.R_mono h (fun _ _ => trivial)
theorem JoS.keepA (h : JoS w1 W D J base vE vL at_ es xs) (n : Int) : JK (J + 4) base W (W.setCell ⟨J + 3, 0, none⟩ (.int .i64 n)) := JK.of_set (by omega) h.av
end
end Go.Proofs.Ytmbnjgnmblgjoaa.Man
end

-- OpensCodec
section
/- What tokens, entries, messages read as. -/


namespace Go.Proofs.Ytmbnjgnmblgjoaa.Open
open Go.RowKit Go.ChangeShapes Go.WideShapes Go.Proofs.YtmbnjgnmblgjoaaW.PrintWords
set_option linter.unusedVariables false
/-- Opens, OpensF, shut up in a structure: Lean does not look through them. -/
structure OP {α : Type} (P : Program) (t : TypeId) (K : Kd α) (bk : α → Nat) : Prop where
  out : Opens P t K (fun _ => True) bk
structure OF {α : Type} (P : Program) (o : Nat) (fs : List Field) (K : Kd α) (bk : α → Nat) : Prop where
  out : OpensF P o fs K (fun _ => True) bk
theorem OP.of {α : Type} {P : Program} {t : TypeId} {K : Kd α} {wf : α → Prop} {bk bk' : α → Nat} (h : Opens P t K wf bk) (hb : ∀ x, bk' x ≤ bk x) : OP P t K bk' := ⟨by
  intro H enc w fuel cs d ps hd hwt
  obtain ⟨x, k1, k2, k3⟩ := h enc w fuel cs d ps hd hwt
  exact ⟨x, k1, trivial, Nat.le_trans (hb x) k3⟩⟩
theorem OF.of {α : Type} {P : Program} {o : Nat} {fs : List Field} {K : Kd α} {wf : α → Prop} {bk bk' : α → Nat} (h : OpensF P o fs K wf bk) (hb : ∀ x, bk' x ≤ bk x) : OF P o fs K bk' := ⟨by
  intro H enc w n cs ys hl hy hwt
  obtain ⟨x, k1, k2, k3⟩ := h enc w n cs ys hl hy hwt
  exact ⟨x, k1, trivial, Nat.le_trans (hb x) k3⟩⟩
theorem op_int : OP Try.prog 3 (Kd.int .i64) (fun _ => 0) := .of (opens_int Try.underlying3) (fun _ => Nat.zero_le _)
theorem OF.cons {α β : Type} {P : Program} {o : Nat} {f : Field} {fs : List Field} {K : Kd α} {K' : Kd β} {bk : α → Nat} {bk' : β → Nat} (ho : f.offset = o) (hc : P.cellsOf f.type = K.sz) (h : OP P f.type K bk) (h' : OF P (o + K.sz) fs K' bk') : OF P o (f :: fs) (Kd.pair K K') (fun x => bk x.1 + bk' x.2) :=
  .of (opensF_cons ho hc h.out h'.out) (fun _ => Nat.le_refl _)
theorem OF.one {α : Type} {P : Program} {o : Nat} {f : Field} {K : Kd α} {bk : α → Nat} (ho : f.offset = o) (hc : P.cellsOf f.type = K.sz) (h : OP P f.type K bk) : OF P o [f] K bk := .of (opensF_one ho hc h.out) (fun _ => Nat.le_refl _)
theorem OP.struct {α β : Type} {P : Program} {t : TypeId} {fs : Array Field} {l : List Field} {K : Kd α} {bk : α → Nat} (f : β → α) (g : α → β) (hfg : ∀ a, f (g a) = a) (ht : P.underlying t = some (.struct fs)) (hl : fs.toList = l) (hc : P.cellsOf t = K.sz) (h : OF P 0 l K bk) : OP P t (Kd.iso K f) (fun x => bk (f x) + 1) :=
  .of (opens_iso f g hfg (opens_struct ht hl hc h.out)) (fun _ => Nat.le_refl _)
theorem OP.slice {α : Type} {P : Program} {t e : TypeId} {K : Kd α} {bk : α → Nat} (ht : P.underlying t = some (.slice e)) (hc : P.cellsOf e = K.sz) (h : OP P e K bk) : OP P t (Kd.slice e K) (fun xs => sum1 bk xs + 1) :=
  .of (opens_slice ht hc (B := P.bytesOf e) rfl h.out e) (fun _ => Nat.le_refl _)
theorem OP.le {α : Type} {P : Program} {t : TypeId} {K : Kd α} {bk bk' : α → Nat} (h : OP P t K bk) (hb : ∀ x, bk' x ≤ bk x) : OP P t K bk' := .of h.out hb
theorem OF.le {α : Type} {P : Program} {o : Nat} {fs : List Field} {K : Kd α} {bk bk' : α → Nat} (h : OF P o fs K bk) (hb : ∀ x, bk' x ≤ bk x) : OF P o fs K bk' := .of h.out hb
/-- One more field that is a whole number. -/
theorem fint {β : Type} {o : Nat} {f : Field} {fs : List Field} {K' : Kd β} {bk' : β → Nat} (ho : f.offset = o) (ht : f.type = 3) (hc : Try.prog.cellsOf f.type = 1) (h' : OF Try.prog (o + 1) fs K' bk') : OF Try.prog o (f :: fs) (Kd.pair (Kd.int .i64) K') (fun x => 0 + bk' x.2) :=
  OF.cons (K := Kd.int .i64) ho hc (by rw [ht]; exact op_int) h'
theorem fint1 {o : Nat} {f : Field} (ho : f.offset = o) (ht : f.type = 3) (hc : Try.prog.cellsOf f.type = 1) : OF Try.prog o [f] (Kd.int .i64) (fun _ => 0) := OF.one (K := Kd.int .i64) ho hc (by rw [ht]; exact op_int)

theorem op_tok : OP Try.prog 111 K.k111 (fun _ => 1) := by
  refine OP.le (OP.struct (bk := fun _ => 0) (fun x : K.S111 => (x.f0, x.f1, x.f2, x.f3)) (fun p => ⟨p.1, p.2.1, p.2.2.1, p.2.2.2⟩) (fun _ => rfl) (l := [_, _, _, _]) Try.underlying111 rfl (by kernel_rfl) ?h) (fun _ => by omega)
  case h => exact OF.le (fint rfl rfl (by kernel_rfl) (fint rfl rfl (by kernel_rfl) (fint rfl rfl (by kernel_rfl) (fint1 rfl rfl (by kernel_rfl))))) (fun _ => by (try simp only); omega)
theorem op_toks : OP Try.prog 22 (Kd.slice 111 K.k111) (fun xs => xs.length) := (OP.slice Try.underlying22 (by kernel_rfl) op_tok).le (fun xs => by rw [sum1_const]; omega)
theorem op_step : OP Try.prog 24 K.k24 (fun x => x.f6.length + 1) := by
  refine OP.le (OP.struct (bk := fun p => p.2.2.2.2.2.2.1.length) (fun x : K.S24 => (x.f0, x.f1, x.f2, x.f3, x.f4, x.f5, x.f6, x.f7)) (fun p => ⟨p.1, p.2.1, p.2.2.1, p.2.2.2.1, p.2.2.2.2.1, p.2.2.2.2.2.1, p.2.2.2.2.2.2.1, p.2.2.2.2.2.2.2⟩) (fun _ => rfl) (l := [_, _, _, _, _, _, _, _]) Try.underlying24 rfl (by kernel_rfl) ?h) (fun x => ?b)
  case h => exact OF.le (fint rfl rfl (by kernel_rfl) (fint rfl rfl (by kernel_rfl) (fint rfl rfl (by kernel_rfl) (fint rfl rfl (by kernel_rfl) (fint rfl rfl (by kernel_rfl) (fint rfl rfl (by kernel_rfl) (OF.cons (K := Kd.slice 111 K.k111) rfl (by kernel_rfl) op_toks (fint1 rfl rfl (by kernel_rfl))))))))) (fun _ => by (try simp only); omega)
  case b => simp only; omega
theorem op_entry : OP Try.prog 26 K.k26 (fun x => x.f2.f6.length + 1) := by
  refine OP.le (OP.struct (bk := fun p => p.2.2.f6.length + 1) (fun x : K.S26 => (x.f0, x.f1, x.f2)) (fun p => ⟨p.1, p.2.1, p.2.2⟩) (fun _ => rfl) (l := [_, _, _]) Try.underlying26 rfl (by kernel_rfl) ?h) (fun x => ?b)
  case h => exact OF.le (fint rfl rfl (by kernel_rfl) (fint rfl rfl (by kernel_rfl) (OF.one (K := K.k24) rfl (by kernel_rfl) op_step))) (fun _ => by (try simp only); omega)
  case b => simp only; omega
theorem op_ents : OP Try.prog 69 (Kd.slice 26 K.k26) (fun xs => sum1 (fun x : K.S26 => x.f2.f6.length + 1) xs + 1) := OP.slice Try.underlying69 (by kernel_rfl) op_entry
/-- The kind of messages. -/
def kMsg : Kd Man.MsgL := Kd.iso (Kd.pair (Kd.int .i64) (Kd.pair (Kd.int .i64) (Kd.pair (Kd.int .i64) (Kd.slice 26 K.k26)))) (fun m : Man.MsgL => (m.k, m.who, m.ver, m.l))
theorem opens_ents : Opens Try.prog 69 (Kd.slice 26 K.k26) (fun _ => True) (fun xs => sum1 (fun x : K.S26 => x.f2.f6.length + 1) xs + 1) := op_ents.out
end Go.Proofs.Ytmbnjgnmblgjoaa.Open
end

-- Back
section
/- The statement CodecBack, stepped through. No condition. Printed by wip/tools/gen_back.py. -/


namespace Go.Proofs.Ytmbnjgnmblgjoaa.Man
open Go.RowKit Go.Proofs.YtmbnjgnmblgjoaaW.PrintWords Go.Proofs.YtmbnjgnmblgjoaaW.PrintLast Go.Proofs.YtmbnjgnmblgjoaaW.PrintMore
set_option linter.unusedVariables false
set_option linter.unusedSimpArgs false
set_option maxRecDepth 100000

theorem EntAt.below {w W : World} {P c : Nat} {x : K.S26} {A : Option Addr} (h : EntAt w P x A c) (hb : Below w.heap.size w W) : EntAt W P x A c := (hb.block _ h.lt).trans h
theorem MsgAt.below {w W : World} {P n c : Nat} {k who ver : Int} {A : Option Addr} (h : MsgAt w P k who ver A n c) (hb : Below w.heap.size w W) : MsgAt W P k who ver A n c := (hb.block _ h.lt).trans h
theorem EntAt.ne {w W : World} {P c : Nat} {x : K.S26} {A : Option Addr} (h : EntAt w P x A c) (e : W.heap[P]? = w.heap[P]?) : EntAt W P x A c := e.trans h
theorem MsgAt.ne {w W : World} {P n c : Nat} {k who ver : Int} {A : Option Addr} (h : MsgAt w P k who ver A n c) (e : W.heap[P]? = w.heap[P]?) : MsgAt W P k who ver A n c := e.trans h
theorem put_ent {x : K.S26} (h : entryE x = 0) : putEntryF x = (entryB x, 0) := by unfold putEntryF; rw [if_pos h, h]
end Go.Proofs.Ytmbnjgnmblgjoaa.Man
end

-- JOpen
section
/- A journal's opening. -/



namespace Go.Proofs.Ytmbnjgnmblgjoaa.Man
open Go.RowKit Go.Shelf Go.Proofs.YtmbnjgnmblgjoaaW.PrintWords Go.Proofs.YtmbnjgnmblgjoaaW.PrintLast Go.Proofs.YtmbnjgnmblgjoaaW.PrintMore
set_option linter.unusedVariables false
set_option linter.unusedSimpArgs false
set_option maxRecDepth 100000
attribute [local go_sem] wide_fn_ Oper.semAt_some

theorem jo_start (w1 : World) (B : Nat) : (JAt ((((w1.alloc (.cells #[.pointer (some ⟨B, 0, none⟩), .slice none 0 0] 184)).alloc (.cells #[.pointer (some ⟨w1.heap.size, 0, none⟩)] 106)).alloc (.cells #[.slice none 0 0] 69)).alloc (.cells #[.int .i64 0] 3)) w1.heap.size B (.slice none 0 0) ∧
    Boxed ((((w1.alloc (.cells #[.pointer (some ⟨B, 0, none⟩), .slice none 0 0] 184)).alloc (.cells #[.pointer (some ⟨w1.heap.size, 0, none⟩)] 106)).alloc (.cells #[.slice none 0 0] 69)).alloc (.cells #[.int .i64 0] 3)) (w1.heap.size + 1) 106 (.pointer (some ⟨w1.heap.size, 0, none⟩)) ∧
    Boxed ((((w1.alloc (.cells #[.pointer (some ⟨B, 0, none⟩), .slice none 0 0] 184)).alloc (.cells #[.pointer (some ⟨w1.heap.size, 0, none⟩)] 106)).alloc (.cells #[.slice none 0 0] 69)).alloc (.cells #[.int .i64 0] 3)) (w1.heap.size + 2) 69 (.slice none 0 0) ∧
    Boxed ((((w1.alloc (.cells #[.pointer (some ⟨B, 0, none⟩), .slice none 0 0] 184)).alloc (.cells #[.pointer (some ⟨w1.heap.size, 0, none⟩)] 106)).alloc (.cells #[.slice none 0 0] 69)).alloc (.cells #[.int .i64 0] 3)) (w1.heap.size + 3) 3 (.int .i64 0)) ∧
    ((((w1.alloc (.cells #[.pointer (some ⟨B, 0, none⟩), .slice none 0 0] 184)).alloc (.cells #[.pointer (some ⟨w1.heap.size, 0, none⟩)] 106)).alloc (.cells #[.slice none 0 0] 69)).alloc (.cells #[.int .i64 0] 3)).heap.size = w1.heap.size + 4 ∧
    Below w1.heap.size w1 ((((w1.alloc (.cells #[.pointer (some ⟨B, 0, none⟩), .slice none 0 0] 184)).alloc (.cells #[.pointer (some ⟨w1.heap.size, 0, none⟩)] 106)).alloc (.cells #[.slice none 0 0] 69)).alloc (.cells #[.int .i64 0] 3)) := by
  refine ⟨⟨?_, ?_, ?_, ?_⟩, by simp, ((((Below.refl w1.heap.size w1).alloc (Nat.le_refl _) _).alloc (by simp) _).alloc (by simp; omega) _).alloc (by simp; omega) _⟩
  · exact (Below.heap_alloc _ _ _ (by simp; omega)).trans ((Below.heap_alloc _ _ _ (by simp; omega)).trans ((Below.heap_alloc _ _ _ (by simp)).trans (World.alloc_heap_new w1 _)))
  · have h := World.alloc_heap_new (w1.alloc (.cells #[.pointer (some ⟨B, 0, none⟩), .slice none 0 0] 184)) (.cells #[.pointer (some ⟨w1.heap.size, 0, none⟩)] 106)
    rw [World.size_alloc] at h
    exact (Below.heap_alloc _ _ _ (by simp)).trans ((Below.heap_alloc _ _ _ (by simp)).trans h)
  · have h := World.alloc_heap_new ((w1.alloc (.cells #[.pointer (some ⟨B, 0, none⟩), .slice none 0 0] 184)).alloc (.cells #[.pointer (some ⟨w1.heap.size, 0, none⟩)] 106)) (.cells #[.slice none 0 0] 69)
    rw [World.size_alloc, World.size_alloc] at h
    exact (Below.heap_alloc _ _ _ (by simp)).trans h
  · have h := World.alloc_heap_new (((w1.alloc (.cells #[.pointer (some ⟨B, 0, none⟩), .slice none 0 0] 184)).alloc (.cells #[.pointer (some ⟨w1.heap.size, 0, none⟩)] 106)).alloc (.cells #[.slice none 0 0] 69)) (.cells #[.int .i64 0] 3)
    rw [World.size_alloc, World.size_alloc, World.size_alloc] at h
    exact h

/-- Between two rounds: what the function keeps. -/
def JM (lo base : Nat) (X Y : World) : Prop := X.heap.size ≤ Y.heap.size ∧ ∀ k, lo ≤ k → k < base → k < X.heap.size → Y.heap[k]? = X.heap[k]?
theorem JK.jm {lo base : Nat} {X Y : World} (h : JK lo base X Y) : JM lo base X Y := ⟨h.size, h.mid⟩
theorem JK.kf {lo base : Nat} {X Y : World} (h : JK lo base X Y) (B : Nat) : KeepsFrom B X Y := ⟨h.size, fun k o _ hk ho => h.keep k o hk ho⟩
theorem JM.trans {lo base : Nat} {A B C : World} (h : JM lo base A B) (k : JM lo base B C) : JM lo base A C := ⟨Nat.le_trans h.1 k.1, fun i h1 h2 h3 => (k.2 i h1 h2 (Nat.lt_of_lt_of_le h3 h.1)).trans (h.2 i h1 h2 h3)⟩
theorem JoS.held {w1 W W' : World} {D J base : Nat} {vE vL : Value} {at_ : Int} {es : List Int} {xs : List K.S26} (h : JoS w1 W D J base vE vL at_ es xs) (hg : W.grownBy W' vE.ownBlock) :
    W'.cell? ⟨J + 1, 0, none⟩ = some (.pointer (some ⟨J, 0, none⟩)) ∧ W'.cell? ⟨J, 1, none⟩ = some vE ∧ W'.frozen? ⟨J, 1, none⟩ = false := by
  have hj := h.j1
  have hge : ∀ r, vE.ownBlock = some r → base ≤ r := R_ge h.ends
  have hne : ∀ k, k < base → some k ≠ vE.ownBlock := fun k hk e => by have := hge k e.symm; omega
  have hJ : JAt W' J D vE := (hg.block _ h.jr.lt (hne _ (by omega))).trans h.jr
  exact ⟨(h.jv.kept hg (hne _ (by omega))).cell, hJ.c1, hJ.f 1⟩
theorem JoS.held2 {w1 W W' : World} {D J base : Nat} {vE vL : Value} {at_ : Int} {es : List Int} {xs : List K.S26} (h : JoS w1 W D J base vE vL at_ es xs) (hg : W.grownBy W' vL.ownBlock) :
    W'.cell? ⟨J + 2, 0, none⟩ = some vL ∧ W'.frozen? ⟨J + 2, 0, none⟩ = false := by
  have hj := h.j1
  have hge : ∀ r, vL.ownBlock = some r → base ≤ r := R_ge h.ents
  have hB : Boxed W' (J + 2) 69 vL := h.lv.kept hg (fun e => by have := hge _ e.symm; omega)
  exact ⟨hB.cell, hB.frozen⟩
theorem apart_types {W : World} {j t t' : Nat} (h : ∃ cs, W.heap[j]? = some (.cells cs t (0, 0))) (h' : ∃ cs, W.heap[j]? = some (.cells cs t' (0, 0))) (hne : t ≠ t') : False := by
  obtain ⟨cs, h⟩ := h
  obtain ⟨cs', h'⟩ := h'
  rw [h] at h'
  cases h'
  exact hne rfl
def jopR10.T : Bool × List (List Nat × List Nat) := (true, [([], []), ([], []), ([1], [1]), ([2], [2]), ([3], [3]), ([], []), ([5], [5]), ([4, 6], [4, 6]), ([0, 0, 1, 2, 3, 4, 5, 6, 7], [0]), ([8, 0, 1, 2, 3, 4, 5, 6, 7], [8]), ([9, 7, 7, 0, 1, 2, 3, 4, 5, 6, 7], [7, 9])])
def jopR10.B : List Nat := [0, 0, 2, 6, 14, 0, 32, 126, 255, 511, 1023]
theorem jopR10.tab : rtab .any (opsOf Try.f72 10) = jopR10.T := by kernel_rfl
theorem jopR10.bits : waitsOk jopR10.T.2 jopR10.B = true := by kernel_rfl

set_option maxHeartbeats 16000000 in
theorem jopen_is {w : World} {dbase B : Nat} {v : Value} {b : List Int} {s m : Int} (hD : DiskS w dbase B v b s m) (hB : areBytesN b = true) {xs : List K.S26} {r : List Int} (hL : LogOf b xs r) :
    Calls Try.prog 72 #[.pointer (some ⟨B, 0, none⟩)] w fun e w' => ∃ J vE vL v', e = .returned (.tuple #[.pointer (some ⟨J, 0, none⟩), vL, .int .i64 0]) ∧ w.heap.size ≤ J ∧ JAt w' J B vE ∧ IR w' w.heap.size vE (endsE 0 xs) ∧ ER w' w.heap.size vL xs ∧ DiskS w' dbase B v' (flatE xs) ((flatE xs).length : Int) m ∧ DStep w w' B v v' := by
  have hblen : b.length ≤ 262144 := by have := hD.len; have := hD.m1; omega
  have HD := Lib.hid hD
  have HB := Lib.hid hB
  have HL := Lib.hid hL
  have HA := Lib.hid (append_is hD none 0 (C_nil w .u8) (by have := hD.len; simp; omega))
  clear hD hB hL
  refine (callsIn_wide (n := 3)).1 ?_
  refine callsIn_of_wp_marks Try.func72 rfl trivial ?_ rfl
  simp only [Try.ntmps72, List.size_toArray, List.length_cons, List.length_nil, Nat.reduceAdd, Nat.reduceSub, Array.replicate_succ, Array.replicate_zero, List.push_toArray, List.append_toArray, List.nil_append, List.cons_append]
  refine wpIn_wide.2 ?_
  go_upto_region 7 with (go_at_call 29; refine HA.out.mono ?_; rintro e w1 ⟨rfl, v1, hd, hst⟩; rw [List.append_nil] at hd; have HD1 := Lib.hid hd; have HS1 := Lib.hid hst; clear hd hst)
  obtain ⟨w2, hw2⟩ : ∃ w2, (((w1.alloc (.cells #[.pointer (some ⟨B, 0, none⟩), .slice none 0 0] 184)).alloc (.cells #[.pointer (some ⟨w1.heap.size, 0, none⟩)] 106)).alloc (.cells #[.slice none 0 0] 69)).alloc (.cells #[.int .i64 0] 3) = w2 := ⟨_, rfl⟩
  have hS2 := jo_start w1 B
  rw [hw2] at hS2 ⊢
  obtain ⟨hs2, hz2, hb2⟩ := hS2
  have HB12 := Lib.hid hb2
  have HO2 := Lib.hid hs2
  have HZ2 := Lib.hid hz2
  have HD2 := Lib.hid (HD1.out.below hb2 (Nat.le_refl _))
  obtain ⟨J, hJ⟩ : ∃ J, w1.heap.size = J := ⟨_, rfl⟩
  rw [hJ] at HZ2 HO2 HB12 ⊢
  rw [show J + 1 + 1 + 1 = J + 3 from rfl, show J + 1 + 1 = J + 2 from rfl]
  have HJ := Lib.hid hJ
  clear hs2 hz2 hb2 hw2 hJ
  go_wp2_with (first
    | (go_at_call 38; refine (bytes_is HD2.out).mono ?_; rintro e w3 ⟨u, rfl, hr, hb⟩; obtain ⟨A2, c2, rfl, hc2, hC2⟩ := BR.len hr; have HB3 := Lib.hid hb; have HR3 := Lib.hid hr; have HC3 := Lib.hid hC2; have HK3 := Lib.hid hc2; clear hr hb hC2 hc2)
    | (go_at_call 135; refine (frames_any _ _ _ _).mono ?_; rintro e w4 ⟨rfl, rfl⟩))
  have hr3 := HR3.out
  obtain ⟨Bb, hBb⟩ : ∃ Bb, w3.heap.size = Bb := ⟨_, rfl⟩
  obtain ⟨w4, hw4⟩ : ∃ w4, w3.alloc (.cells #[.slice A2 b.length c2] 27) = w4 := ⟨_, rfl⟩
  have hX4 : Boxed w4 Bb 27 (.slice A2 b.length c2) := by rw [← hw4, ← hBb]; exact Boxed.new w3 _ _
  have hb34 : Below w3.heap.size w3 w4 := by rw [← hw4]; exact (Below.refl _ _).alloc (Nat.le_refl _) _
  obtain ⟨base, hbs⟩ : ∃ base, w4.heap.size = base := ⟨_, rfl⟩
  have hb1 : base = Bb + 1 := by rw [← hbs, ← hw4, World.size_alloc, hBb]
  have hb2 : J + 4 ≤ Bb := by have := HB3.out.size; have := HZ2.out; omega
  have hA2 : ∀ ad, A2 = some ad → J + 4 ≤ ad.block ∧ ad.block < Bb := fun ad e => by
    have e2 : Value.ownBlock (.slice A2 b.length c2) = some ad.block := by rw [e]; rfl
    exact ⟨by have := R_ge hr3 _ e2; have := HZ2.out; omega, by have := R_lt hr3 _ e2; omega⟩
  rw [hw4, hBb]
  have HC4 := Lib.hid (Kd.C_below HC3.out hb34)
  have hb24 : Below w2.heap.size w2 w4 := HB3.out.trans (hb34.mono HB3.out.size)
  have hI0 : JoS w1 w4 B J base (.slice none 0 0) (.slice none 0 0) 0 [] [] := by
    obtain ⟨s1, s2, s3, s4⟩ := HO2.out
    exact ⟨(hb24.block _ s1.lt).trans s1, (hb24.block _ s2.lt).trans s2, (hb24.block _ s3.lt).trans s3, (hb24.block _ s4.lt).trans s4, Kd.R_nil _ _ _ _ _, Kd.R_nil _ _ _ _ _, by rw [HJ.out]; exact HB12.out.trans (hb24.mono (by have := HZ2.out; omega)), Nat.le_of_eq hbs.symm, Nat.le_of_eq HJ.out, by omega⟩
  have HI0 := Lib.hid hI0
  have HX4 := Lib.hid hX4
  have HA2 := Lib.hid hA2
  have HBS := Lib.hid hbs
  have HB1 := Lib.hid hb1
  clear hr3 hw4 hBb hX4 hb34 hb24 hI0 hA2 hbs hb1 HR3 HC3 HB3 HO2
  refine (wpIn_wide (n := 3)).1 ?_
  refine wpIn_rangeAllX rfl (by decide) (gf := 157) (lb := #[.pointer (some ⟨Bb, 0, none⟩)]) rfl trivial (enters_of Try.func157 (by kernel_rfl) rfl)
    (encs := Fed.encs) (Mv := fun X Y => Below X.heap.size X Y) (Kp := JM (J + 4) base) (S := fun ys => fedX ys = xs) (N := FedN base xs) ?seq
    (fun X Y k o h _ hk => (h.block k (Array.getElem?_eq_some_iff.1 hk).1).trans hk) (fun h k => h.trans k) (fun W l o o' hl h _ => ⟨by simp, fun k _ h2 _ => World.putObj_heap_other (by have := HBS.out; omega)⟩) (fun _ => rfl)
    (fun ys W => ∃ vE vL, JoS w1 W B J base vE vL ((flatE (fedX ys)).length : Int) (endsE 0 (fedX ys)) (fedX ys)) ?hI ?hIr ?h0
    (fun pre f a' W => ∃ vE vL E, JoS w1 W B J base vE vL ((flatE (fedX pre)).length : Int) (endsE 0 (fedX pre)) (fedX pre) ∧ EntAt W E f.x f.A f.c ∧ base ≤ E ∧ TR W base (.slice f.A f.x.f2.f6.length f.c) f.x.f2.f6 ∧ fedX pre ++ [f.x] <+: xs ∧ f.nx = (flatE (fedX pre ++ [f.x])).length ∧
      a' = { tmps := #[.pointer (some ⟨B, 0, none⟩), undef, .pointer none, .slice none 0 0, .int .i64 0, .int .i64 0, .pointer (some ⟨J + 1, 0, none⟩), .pointer (some ⟨J + 2, 0, none⟩), .pointer (some ⟨J + 3, 0, none⟩), .int .i64 f.nx, .pointer (some ⟨E, 0, none⟩), .pointer (some ⟨B, 0, none⟩), .int .i64 0, .int .i64 0, .bool false, undef, .pointer (some ⟨B, 0, none⟩), .agg #[.pointer (some ⟨B, 0, none⟩), .slice none 0 0], .pointer (some ⟨J, 0, none⟩), .pointer (some ⟨B, 0, none⟩), .slice A2 b.length c2, .func (.func 157) #[] #[.pointer (some ⟨Bb, 0, none⟩)], .int .i64 f.nx, .agg #[.int .i64 f.x.f0, .int .i64 f.x.f1, .int .i64 f.x.f2.f0, .int .i64 f.x.f2.f1, .int .i64 f.x.f2.f2, .int .i64 f.x.f2.f3, .int .i64 f.x.f2.f4, .int .i64 f.x.f2.f5, .slice f.A f.x.f2.f6.length f.c, .int .i64 f.x.f2.f7], undef, undef, undef, undef, undef, undef, undef, undef, undef, undef, undef, undef, undef, undef, undef, undef, undef, undef, undef, undef], defers := [] }) ?hIx ?assign ?body ?done
  case seq =>
    intro l J' W hW hJ' hY h0
    refine (frames1_in 2 (by decide) l Bb base A2 c2 b xs r HL.out HB.out HK3.out hblen (fun s X => J' s X ∧ base ≤ X.heap.size) (fun s X Y h hb => ⟨hJ' _ _ _ h.1 hb, Nat.le_trans h.2 hb.size⟩) ?_ W (by have := hW.size; have := HBS.out; omega)
      ((hW.block _ HX4.out.lt).trans HX4.out) (Kd.C_below HC4.out hW) ⟨h0, by have := hW.size; have := HBS.out; omega⟩ (fun _ _ h => h.2)).mono ?_
    · intro pre f W1 h1 h2
      obtain ⟨fn, tmps, assign, body, hy, hR⟩ := hY pre f W1 h1.1 h2
      refine ⟨fn, tmps, assign, body, hy, hR.mono ?_⟩
      rintro e W' ⟨he, hj, hk⟩
      exact ⟨he, ⟨hj, Nat.le_trans h1.2 hk.1⟩, hk.2 Bb hb2 (by have := HB1.out; omega) (by have := HB1.out; have := h1.2; omega), fun ad e => by
        obtain ⟨q1, q2⟩ := HA2.out ad e
        exact hk.2 _ q1 (by have := HB1.out; omega) (by have := HB1.out; have := h1.2; omega)⟩
    · rintro e W' ⟨h1, ys, h2, h3⟩
      exact ⟨h1, ys, h2, h3.1⟩
  case hI =>
    rintro ys X Y row ⟨vE, vL, h⟩ hg hr
    exact ⟨vE, vL, h.nc hg (fun r e => by rw [← HBS.out]; exact hr r e)⟩
  case hIr =>
    rintro ys X Y ⟨vE, vL, h⟩ hb
    exact ⟨vE, vL, h.below hb⟩
  case h0 => exact ⟨_, _, HI0.out⟩
  case hIx =>
    rintro pre f a' _ X Y row ⟨vE, vL, E, h1, h2, h3, h4, h5, h6, h7⟩ hg hr
    exact ⟨vE, vL, E, h1.nc hg (fun r e => by rw [← HBS.out]; exact hr r e), (hg.block _ h2.lt (fun e => by obtain ⟨_, o, ho, hc⟩ := hr _ e.symm; rw [show X.heap[E]? = _ from h2] at ho; cases ho; cases hc)).trans h2, h3, R_nc h4 hg (fun r e => (hr r e).2), h5, h6, h7⟩
  case assign =>
    rintro l pre f W K ⟨vE, vL, hI⟩ ⟨n1, n2, n3, n4⟩ hK
    have HI := Lib.hid hI
    have HN := Lib.hid n4
    have HN1 := Lib.hid n1
    have HN2 := Lib.hid n2
    clear hI n1 n2 n4
    gi_wp2
    have hb : Below W.heap.size W (W.alloc (.cells #[.int .i64 f.x.f0, .int .i64 f.x.f1, .int .i64 f.x.f2.f0, .int .i64 f.x.f2.f1, .int .i64 f.x.f2.f2, .int .i64 f.x.f2.f3, .int .i64 f.x.f2.f4, .int .i64 f.x.f2.f5, .slice f.A f.x.f2.f6.length f.c, .int .i64 f.x.f2.f7] 26)) := (Below.refl _ _).alloc (Nat.le_refl _) _
    exact hK _ _ ((JK.of_below (lo := J + 4) (base := base) hb).kf _) (JK.of_below hb).jm ⟨vE, vL, W.heap.size, HI.out.below hb, World.alloc_heap_new W _, HI.out.sz, Kd.R_below HN.out hb, HN1.out, HN2.out, rfl⟩
  case body =>
    rintro l pre f a' W ⟨vE, vL, E, h1, h2, h3, h4, h5, h6, rfl⟩
    obtain ⟨es, hes⟩ : ∃ es, endsE 0 (fedX pre) = es := ⟨_, rfl⟩
    obtain ⟨ps, hps⟩ : ∃ ps, fedX pre = ps := ⟨_, rfl⟩
    have hlen : es.length ≤ 60000 ∧ ps.length ≤ 60000 := by
      have e1 : es.length = (fedX pre).length := by rw [← hes, endsE_length]
      have e2 := congrArg List.length hps
      have e3 := flat_len_ge xs
      have e4 := HL.out.len
      have e5 := h5.length_le
      rw [List.length_append] at e5
      omega
    have HEL : Hid ((es.length + 1) * 8 ≤ 140737488355328) := Lib.hid (by omega)
    have HPL : Hid ((ps.length + 1) * 96 ≤ 140737488355328) := Lib.hid (by omega)
    have HES : Hid (endsE 0 (fedX (pre ++ [f])) = es ++ [(f.nx : Int)]) := Lib.hid (by unfold fedX; rw [List.map_append, List.map_cons, List.map_nil, endsE_snoc, Nat.zero_add]; rw [← hes, h6]; rfl)
    have HPS : Hid (fedX (pre ++ [f]) = ps ++ [f.x]) := Lib.hid (by unfold fedX; rw [List.map_append, List.map_cons, List.map_nil]; rw [← hps]; rfl)
    have HNX : Hid (((flatE (fedX (pre ++ [f]))).length : Int) = (f.nx : Int)) := Lib.hid (by unfold fedX; rw [List.map_append, List.map_cons, List.map_nil]; rw [h6]; rfl)
    rw [hes, hps] at h1
    have hbd : Below W.heap.size W W.drew := below_drew1 (Below.refl _ _)
    have HJ0 := Lib.hid (h1.below hbd)
    have HE0 := Lib.hid (h2.below hbd)
    have HT0 := Lib.hid (Kd.R_below h4 hbd)
    have HK0 := Lib.hid (JK.of_below (lo := J + 4) (base := base) hbd)
    obtain ⟨AE, cE, rfl, _, _⟩ := IR.len h1.ends
    obtain ⟨AL, cL, rfl, _, _⟩ := ER.C h1.ents
    have HE3 := Lib.hid h3
    clear hes hps hlen h1 h2 h3 h4 h5 h6 hbd
    gi_wp2
    refine start_in (n := 11) (S := fun w' => w'.cell? ⟨J + 1, 0, none⟩ = some (.pointer (some ⟨J, 0, none⟩)) ∧ w'.cell? ⟨J, 1, none⟩ = some (.slice AE es.length cE)) (ds := [10]) #[false, false, false, false, false, false, false, false, false, false, false] (by kernel_rfl) (by kernel_rfl) (by rintro ⟨_, _, h⟩; exact h) rfl rfl ⟨HJ0.out.jv.cell, HJ0.out.jr.c1⟩ (fun hHeld => ?_); refine with_tabW jopR10.tab jopR10.bits (fun HT_ HW_ => ?_)
    obtain ⟨WD, hWD⟩ : ∃ X, W.drew = X := ⟨_, rfl⟩
    rw [hWD] at hHeld HJ0 HE0 HT0 HK0 ⊢
    have HJD := HJ0
    clear hWD
    refine pure_ (i := 5) (N := (some 29)) (v := ?_) (a' := ?_) #[false, false, false, false, false, true, false, false, false, false, false] rfl rfl (any_of HT_.out (by kernel_rfl)) (fun _ _ _ h => h) (Or.inl ⟨by rfl, ?_⟩) ?_ ?_
    rotate_left
    · intro w'
      go_simp
      with_reducible rfl
    rotate_left
    · simp only [Act.put, List.setIfInBounds_toArray, List.set_cons_zero, List.set_cons_succ, i64_w, i32_w]
      rfl
    refine take_ (i := 0) (N := (some 24)) (v := ?_) (a' := ?_) #[true, false, false, false, false, true, false, false, false, false, false] rfl rfl (take_ofW HT_.out HW_.out (by kernel_rfl)) (fun _ _ _ h => h) (Or.inl ⟨by rfl, ?_⟩) hHeld ?_ ?_
    rotate_left
    · rintro w' ⟨s0, s1⟩
      go_simp
      with_reducible rfl
    rotate_left
    · simp only [Act.put, List.setIfInBounds_toArray, List.set_cons_zero, List.set_cons_succ, i64_w, i32_w]
      rfl
    refine take_ (i := 1) (N := (some 25)) (v := ?_) (a' := ?_) #[true, true, false, false, false, true, false, false, false, false, false] rfl rfl (take_ofW HT_.out HW_.out (by kernel_rfl)) (fun _ _ _ h => h) (Or.inl ⟨by rfl, ?_⟩) hHeld ?_ ?_
    rotate_left
    · rintro w' ⟨s0, s1⟩
      go_simp
      with_reducible rfl
    rotate_left
    · simp only [Act.put, List.setIfInBounds_toArray, List.set_cons_zero, List.set_cons_succ, i64_w, i32_w]
      rfl
    refine pure_ (i := 2) (N := (some 26)) (v := ?_) (a' := ?_) #[true, true, true, false, false, true, false, false, false, false, false] rfl rfl (any_of HT_.out (by kernel_rfl)) (fun _ _ _ h => h) (Or.inl ⟨by rfl, ?_⟩) ?_ ?_
    rotate_left
    · intro w'
      go_simp
      with_reducible rfl
    rotate_left
    · simp only [Act.put, List.setIfInBounds_toArray, List.set_cons_zero, List.set_cons_succ, i64_w, i32_w]
      rfl
    refine pure_ (i := 3) (N := (some 27)) (v := ?_) (a' := ?_) #[true, true, true, true, false, true, false, false, false, false, false] rfl rfl (any_of HT_.out (by kernel_rfl)) (fun _ _ _ h => h) (Or.inl ⟨by rfl, ?_⟩) ?_ ?_
    rotate_left
    · intro w'
      go_simp
      with_reducible rfl
    rotate_left
    · simp only [Act.put, List.setIfInBounds_toArray, List.set_cons_zero, List.set_cons_succ, i64_w, i32_w]
      rfl
    refine take_ (i := 4) (N := (some 28)) (v := ?_) (a' := ?_) #[true, true, true, true, true, true, false, false, false, false, false] rfl rfl (take_ofW HT_.out HW_.out (by kernel_rfl)) (fun _ _ _ h => h) (Or.inl ⟨by rfl, ?_⟩) hHeld ?_ ?_
    rotate_left
    · rintro w' ⟨s0, s1⟩
      go_simp
      with_reducible rfl
    rotate_left
    · simp only [Act.put, List.setIfInBounds_toArray, List.set_cons_zero, List.set_cons_succ, i64_w, i32_w]
      rfl
    refine one_ (i := 6) (N := (some 30)) #[true, true, true, true, true, true, true, false, false, false, false] rfl rfl (one_of HT_.out (by kernel_rfl)) (by decide) (fun K hK => ?_)
    refine value_ (w1 := WD.alloc (.cells #[.int .i64 f.nx] 3)) (v := .slice (some ⟨WD.heap.size, 0, none⟩) 1 1) (by rfl) rfl ?_ ?_
    · go_simp
      try rfl
    refine hK.out _ _ ⟨(HJD.out.below ((Below.refl WD.heap.size WD).alloc (Nat.le_refl _) (.cells #[.int .i64 f.nx] 3))).jv.cell, (HJD.out.below ((Below.refl WD.heap.size WD).alloc (Nat.le_refl _) (.cells #[.int .i64 f.nx] 3))).jr.c1⟩ (fun hHeld => ?_)
    clear hK K
    refine norm_ (a' := ?_) ?_ ?_
    rotate_left
    · show Act.put _ (some 30) _ = _
      simp only [Act.put, List.setIfInBounds_toArray, List.set_cons_zero, List.set_cons_succ, i64_w, i32_w]
      rfl
    refine one_ (i := 7) (N := (some 31)) #[true, true, true, true, true, true, true, true, false, false, false] rfl rfl (one_of HT_.out (by kernel_rfl)) (by decide) (fun K hK => ?_)
    refine Kd.R_append_step (Kd.int .i64) (w0 := WD) (W := WD) base (by rfl) (.tmp 28) (.tmp 30) 42 3 (.int .i64 0) 8 rfl Try.underlying42 info_int rfl (by decide) (by decide) (.slice AE es.length cE) es (f.nx : Int) [.int .i64 (f.nx : Int)] (fun _ => True) (fun _ => False) rfl rfl rfl (fun _ h => h.elim) (fun _ _ => trivial) HJD.out.ends (Below.refl _ _) HJD.out.sz HEL.out ?_
    intro v4 w4 hr4 hb4 hg4 hat4
    have HG4 := Lib.hid hg4
    obtain ⟨zs, hzs⟩ : ∃ zs, es ++ [(f.nx : Int)] = zs := ⟨_, rfl⟩
    rw [hzs] at hr4
    have HZS := Lib.hid hzs
    obtain ⟨A5, k5, rfl, _, _⟩ := IR.len hr4
    have HR4 := Lib.hid hr4
    obtain ⟨hh1, hh2, hh3⟩ := HJD.out.held hg4
    clear hr4 hb4 hg4 hat4 hzs
    refine hK.out _ _ ⟨hh1, hh2⟩ (fun hHeld => ?_)
    clear hK K
    refine norm_ (a' := ?_) ?_ ?_
    rotate_left
    · show Act.put _ (some 31) _ = _
      simp only [Act.put, List.setIfInBounds_toArray, List.set_cons_zero, List.set_cons_succ, i64_w, i32_w]
      rfl
    refine pure_ (i := 8) (N := (some 32)) (v := ?_) (a' := ?_) #[true, true, true, true, true, true, true, true, true, false, false] rfl rfl (any_of HT_.out (by kernel_rfl)) (fun _ _ _ h => h) (Or.inl ⟨by rfl, ?_⟩) ?_ ?_
    rotate_left
    · intro w'
      go_simp
      with_reducible rfl
    rotate_left
    · simp only [Act.put, List.setIfInBounds_toArray, List.set_cons_zero, List.set_cons_succ, i64_w, i32_w]
      rfl
    refine pure_ (i := 9) (N := (some 33)) (v := ?_) (a' := ?_) #[true, true, true, true, true, true, true, true, true, true, false] rfl rfl (any_of HT_.out (by kernel_rfl)) (fun _ _ _ h => h) (Or.inl ⟨by rfl, ?_⟩) ?_ ?_
    rotate_left
    · intro w'
      go_simp
      with_reducible rfl
    rotate_left
    · simp only [Act.put, List.setIfInBounds_toArray, List.set_cons_zero, List.set_cons_succ, i64_w, i32_w]
      rfl
    refine last_ (i := 10) (N := none) #[true, true, true, true, true, true, true, true, true, true, true] rfl rfl (one_of HT_.out (by kernel_rfl)) (by decide) (fun K hK => ?_)
    refine skip_ (w1 := w4.setCell ⟨J, 1, none⟩ (.slice A5 zs.length k5)) (by rfl) rfl ?_ ?_
    · go_simp
      try rfl
    refine hK.out _ _ ?_
    clear hK K
    refine done_ (done_of HT_.out (by kernel_rfl)) ?_
    have hJ5 := HJD.out.putE HG4.out HR4.out
    have HK5 := Lib.hid (HK0.out.trans (HJD.out.keepE (v' := .slice A5 zs.length k5) HG4.out))
    have hEne : some E ≠ (Value.slice AE es.length cE).ownBlock := fun e => by
      obtain ⟨cs, hc⟩ := R_typ HJD.out.ends _ e.symm
      rw [show WD.heap[E]? = _ from HE0.out] at hc
      cases hc
    have HE5 : Hid (EntAt (w4.setCell ⟨J, 1, none⟩ (.slice A5 zs.length k5)) E f.x f.A f.c) := Lib.hid ((Below.heap_setCell _ _ _ _ (by show E ≠ J; have := HJD.out.j1; have := HE3.out; omega)).trans ((HG4.out.block _ HE0.out.lt hEne).trans HE0.out))
    have HT5 : Hid (TR (w4.setCell ⟨J, 1, none⟩ (.slice A5 zs.length k5)) base (.slice f.A f.x.f2.f6.length f.c) f.x.f2.f6) := Lib.hid (TR.set (R_typed HT0.out (t := 3) (by decide) HG4.out (R_typ HJD.out.ends)) (by have := HJD.out.j1; omega) 1 _)
    have HJ5 := Lib.hid hJ5
    obtain ⟨w5, hw5⟩ : ∃ w5, w4.setCell ⟨J, 1, none⟩ (.slice A5 zs.length k5) = w5 := ⟨_, rfl⟩
    rw [hw5] at HJ5 HK5 HE5 HT5 ⊢
    clear hJ5 hEne hw5 HR4 HG4 HJD HJ0 HK0 HE0 HT0 hHeld
    obtain ⟨q0, q1, q2, q3, q4, q5, q6, q7, q8, q9⟩ := HE5.out.c
    have cL5 := HJ5.out.lv.cell
    gi_wp2_with (gi_at_builtin; refine stepIn_of (by rfl) (by intro c h; cases h) ?_; refine Kd.R_append_step Go.Proofs.Ytmbnjgnmblgjoaa.K.k26 (w0 := w5) (W := w5) base (by rfl) (.tmp 34) (.tmp 36) 69 26 (.agg #[.int .i64 0, .int .i64 0, .int .i64 0, .int .i64 0, .int .i64 0, .int .i64 0, .int .i64 0, .int .i64 0, .slice none 0 0, .int .i64 0]) 96 rfl Try.underlying69 info_ent rfl (by decide) (by decide) (.slice AL ps.length cL) ps f.x [.int .i64 f.x.f0, .int .i64 f.x.f1, .int .i64 f.x.f2.f0, .int .i64 f.x.f2.f1, .int .i64 f.x.f2.f2, .int .i64 f.x.f2.f3, .int .i64 f.x.f2.f4, .int .i64 f.x.f2.f5, .slice f.A f.x.f2.f6.length f.c, .int .i64 f.x.f2.f7] (fun _ => True) (fun j => some j = (Value.slice f.A f.x.f2.f6.length f.c).ownBlock) rfl rfl (Go.Proofs.Ytmbnjgnmblgjoaa.K.k26_mkM _ _ _ _ (TR.tight HT5.out)) (fun j hj => ⟨trivial, fun e => apart_types (R_typ HT5.out j hj.symm) (R_typ HJ5.out.ents j e.symm) (by decide)⟩) (fun _ _ => trivial) HJ5.out.ents (Below.refl _ _) HJ5.out.sz HPL.out ?_; intro v6 w6 hr6 hb6 hg6 hat6; obtain ⟨zl, hzl⟩ : ∃ zl, ps ++ [f.x] = zl := ⟨_, rfl⟩; rw [hzl] at hr6; obtain ⟨A6, k6, rfl, _, _⟩ := ER.C hr6; have HZL := Lib.hid hzl; have HR6 := Lib.hid hr6; have HG6 := Lib.hid hg6; obtain ⟨hc6, hf6⟩ := HJ5.out.held2 hg6; have HJ7 := Lib.hid (HJ5.out.putL hg6 hr6); have HK7 := Lib.hid (HK5.out.trans (HJ5.out.keepL (v' := .slice A6 zl.length k6) hg6)); have hc7 := HJ7.out.av.cell; have hf7 := HJ7.out.av.frozen; clear hr6 hb6 hg6 hat6 hzl q0 q1 q2 q3 q4 q5 q6 q7 q8 q9 cL5)
    have hJ8 := HJ7.out.putA (f.nx : Int)
    have hK8 := HK7.out.trans (HJ7.out.keepA (f.nx : Int))
    refine ⟨hK8.kf _, hK8.jm, .slice A5 zs.length k5, .slice A6 zl.length k6, ?_⟩
    rw [HNX.out, HES.out, HPS.out, HZS.out, HZL.out]
    exact hJ8
  case done =>
    rintro D ys W hD hys ⟨vE, vL, hI⟩ hdf
    rw [hys] at hI
    have HI := Lib.hid hI
    have HDF := Lib.hid hdf
    have hDW := HD1.out.below HI.out.bel (Nat.le_refl _)
    have HC := Lib.hid (cut_is hDW (flatE xs).length HL.out.len)
    have ca := hI.av.cell
    obtain ⟨AE, cE, rfl, _, _⟩ := IR.len hI.ends
    obtain ⟨AL, cL, rfl, _, _⟩ := ER.C hI.ents
    clear hI hdf hDW
    go_wp2_with (go_at_call 35; refine HC.out.mono ?_; rintro e w8 ⟨rfl, v8, hd, hst⟩; have HD8 := Lib.hid hd; have HS8 := Lib.hid hst; clear hd hst)
    have hBJ : B < J ∧ (∀ k, v1.ownBlock = some k → k < J) := ⟨by have := HD1.out.cells.lt; have := HJ.out; omega, fun k hk => by have := (HD1.out.row.block hk).2.1; have := HJ.out; omega⟩
    have hmv : ∀ k, k < W.heap.size → J ≤ k → w8.heap[k]? = W.heap[k]? := fun k hk hj => HS8.out.block k hk (by omega) (fun e => by have := hBJ.2 _ e.symm; omega)
    have j1 := HI.out.j1
    have hJ8 : JAt w8 J B (.slice AE (endsE 0 xs).length cE) := HI.out.jr.ne (hmv _ HI.out.jr.lt (Nat.le_refl _))
    have hV8 : Boxed w8 (J + 1) 106 (.pointer (some ⟨J, 0, none⟩)) := (hmv _ HI.out.jv.lt (by omega)).trans HI.out.jv
    have hL8 : Boxed w8 (J + 2) 69 (.slice AL xs.length cL) := (hmv _ HI.out.lv.lt (by omega)).trans HI.out.lv
    have hE8 : IR w8 base (.slice AE (endsE 0 xs).length cE) (endsE 0 xs) := Kd.R_mono (Kd.R_move (Kd.R_bound HI.out.ends) (fun k hk => hmv k hk.2.2.1 (by have := hk.2.1; omega))) (fun _ _ => trivial)
    have hX8 : ER w8 base (.slice AL xs.length cL) xs := Kd.R_mono (Kd.R_move (Kd.R_bound HI.out.ents) (fun k hk => hmv k hk.2.2.1 (by have := hk.2.1; omega))) (fun _ _ => trivial)
    have hM8 : w8.heap[D]? = some (.deferred (some [])) := (hmv D (Array.getElem?_eq_some_iff.1 HDF.out).1 (by have := HBS.out; omega)).trans HDF.out
    have hS8 : DStep w w8 B v v8 := HS1.out.then_ ((DStep.of_below_ B v1 HI.out.bel).then_ HS8.out)
    have c1 := hV8.cell
    have c2 := hL8.cell
    have H1 := Lib.hid hJ8
    have H2 := Lib.hid hE8
    have H3 := Lib.hid hX8
    have H4 := Lib.hid hM8
    have H5 := Lib.hid hS8
    have HN0 : Hid (w.heap.size ≤ J ∧ w.heap.size ≤ D ∧ w.heap.size ≤ base) := Lib.hid (by have := HS1.out.size; have := HJ.out; have := HBS.out; omega)
    clear hBJ hmv j1 hJ8 hV8 hL8 hE8 hX8 hM8 hS8
    go_quiet (fail)
    go_wp2
    refine leaves_marks (n0 := w.heap.size) [{ target := .collected D, args := #[] }] _ ⟨⟨D, rfl, HN0.out.2.1, by simpa using H4.out, fun d hd => by cases hd⟩, trivial⟩ (fun W' hs => ?_)
    refine ⟨.tuple #[.pointer (some ⟨J, 0, none⟩), .slice AL xs.length cL, .int .i64 0], by simp [results, Try.results72, go_sem], J, .slice AE (endsE 0 xs).length cE, _, v8, rfl, HN0.out.1, ?_, ?_, ?_, ?_, ?_⟩
    · exact hs.cells _ _ (show (w8.drewN nq).heap[J]? = _ from ((pw_below_drewN (Below.refl _ _) nq : Below w8.heap.size w8 (w8.drewN nq)).block _ H1.out.lt).trans H1.out) rfl
    · exact R_cells (Kd.R_lower (Kd.R_below H2.out (pw_below_drewN (Below.refl _ _) nq)) HN0.out.2.2) hs.cells
    · exact R_cells (Kd.R_lower (Kd.R_below H3.out (pw_below_drewN (Below.refl _ _) nq)) HN0.out.2.2) hs.cells
    · have := (HD8.out.below (pw_below_drewN (Below.refl _ _) nq) (Nat.le_refl _)).shut hs
      rwa [HL.out.take] at this
    · exact (H5.out.then_ (DStep.of_below_ B v8 (pw_below_drewN (Below.refl _ _) nq))).shut hs
end Go.Proofs.Ytmbnjgnmblgjoaa.Man
end

-- JAppBase
section
/- A journal: its state, its small acts; an append behind a row whose capacity ends with it; an entry's frame. -/

namespace Go.Proofs.Ytmbnjgnmblgjoaa.Man
open Go.RowKit Go.Shelf Go.Proofs.YtmbnjgnmblgjoaaW.PrintWords Go.Proofs.YtmbnjgnmblgjoaaW.PrintLast Go.Proofs.YtmbnjgnmblgjoaaW.PrintMore
set_option linter.unusedVariables false
set_option linter.unusedSimpArgs false
set_option maxRecDepth 100000

theorem IR.full (W : World) (ty : TypeId) (A : Option Addr) (xs : List Int) (y : Int) (HR : Kd.C (Kd.int .i64) W A xs.length xs) (hl : (xs.length + 1) * 8 ≤ 140737488355328) :
    ∃ v1 w1, (Builtin.append_ #[42, 42] ty #[.slice A xs.length xs.length, .slice (some ⟨W.heap.size, 0, none⟩) 1 1]).run Try.prog (W.alloc (.cells #[.int .i64 y] 3)) = .ok v1 w1 ∧ IR w1 W.heap.size v1 (xs ++ [y]) ∧ Below W.heap.size W w1 := by
  have hR := Kd.reads_of_C (enc := Value.int .i64) (d := (0 : Int)) (h1 := fun _ => rfl) (Kd.C_below HR ((Below.refl W.heap.size W).alloc (Nat.le_refl _) (.cells #[.int .i64 y] 3)))
  have ht : Try.prog.underlying 42 = some (.slice 3) := by kernel_rfl
  obtain ⟨i0, hi, hzz⟩ := Option.map_eq_some_iff.1 info_int
  simp only [Prod.mk.injEq] at hzz
  obtain ⟨hz0, hz1, hz2⟩ := hzz
  have hb : Below W.heap.size W (W.alloc (.cells #[.int .i64 y] 3)) := (Below.refl _ _).alloc (Nat.le_refl _) _
  have hcells : ∀ j u, ([Value.int .i64 y])[j]? = some u → (W.alloc (.cells #[.int .i64 y] 3)).cell? ((⟨W.heap.size, 0, none⟩ : Addr).add j) = some u := by
    intro j u hu
    rcases j with _ | j
    · simp only [List.getElem?_cons_zero, Option.some.injEq] at hu
      subst hu
      rw [Addr.add_lit]
      exact (Boxed.new W _ _).cell
    · simp at hu
  rcases A with _ | ad
  · have h0 : xs.length = 0 := by
      rcases Nat.eq_zero_or_pos xs.length with h0 | h0
      · exact h0
      · obtain ⟨ad, h, _⟩ := hR.2.2 h0
        cases h
    obtain rfl : xs = [] := List.eq_nil_of_length_eq_zero h0
    obtain ⟨v1, w1, hr, q2, q3, _⟩ := run_append_own_at (P := Try.prog) (W.alloc (.cells #[.int .i64 y] 3)) W.heap.size 42 ty 3 i0 (.int .i64 0) 1 8 ht hi hz0 hz1 hz2 rfl (by omega) (.slice none 0 0) 0 [] (World.ownsRow_nil _ W.heap.size _ 1) ⟨W.heap.size, 0, none⟩ 1 1 [.int .i64 y] rfl hcells (by intro u hu; simp only [List.mem_singleton] at hu; subst hu; rfl) (by simp only [maxLen]; omega) (by omega) hb.size
    exact ⟨v1, w1, hr, Kd.R_of_own (by simpa [encs] using q2) (fun _ _ => trivial), hb.grown q3 hb.size (fun r e => by cases e)⟩
  · obtain ⟨v1, w1, hr, q2, q3⟩ := run_append_arg_grows (P := Try.prog) (W.alloc (.cells #[.int .i64 y] 3)) 42 ty 3 i0 (.int .i64 0) 1 8 ht hi hz0 hz1 hz2 rfl (by omega) ad xs.length xs.length (encs (Value.int .i64) xs) (by simp [encs]) (fun j u hu => by
        have hj : j < xs.length := by
          rcases Nat.lt_or_ge j xs.length with h | h
          · exact h
          · simp [encs, List.getElem?_eq_none h] at hu
        obtain ⟨ad', h', hc⟩ := hR.2.2 (by omega)
        injection h' with h'
        subst h'
        rw [encs_get (d := (0 : Int)) xs j hj] at hu
        rw [← hu]
        exact hc j (by omega)) ⟨W.heap.size, 0, none⟩ 1 1 [.int .i64 y] rfl hcells (by omega) (by simp only [maxLen]; omega) (by omega)
    exact ⟨v1, w1, hr, Kd.R_lower (Kd.R_of_own (by simpa [encs] using q2) (fun _ _ => trivial)) (by simp), hb.grown q3 hb.size (fun r e => by cases e)⟩

/-- What keeps an entry out of a log. -/
def frameErr (x : K.S26) : Int := if entryE x = 0 then (wrapF (entryB x)).2 else entryE x
theorem frameErr_fine {x : K.S26} : frameErr x = 0 ↔ Fine x := by
  unfold frameErr Fine wrapF
  by_cases h : entryE x = 0
  · rw [if_pos h]
    by_cases h2 : 65536 < (entryB x).length
    · rw [if_pos h2]; constructor
      · intro h3; cases h3
      · intro h3; omega
    · rw [if_neg h2]; exact ⟨fun _ => ⟨h, by omega⟩, fun _ => rfl⟩
  · rw [if_neg h]; exact ⟨fun h3 => absurd h3 h, fun h3 => absurd h3.1 h⟩
theorem wrap_err (b : List Int) : (wrapF b).2 ≠ 0 → (wrapF b).1 = [] := by
  unfold wrapF; split
  · exact fun _ => rfl
  · exact fun h => absurd rfl h
theorem wrap_ok (b : List Int) : (wrapF b).2 = 0 → (wrapF b).1 = frameF b := by
  unfold wrapF; split
  · intro h; cases h
  · exact fun _ => rfl
set_option maxHeartbeats 8000000 in
theorem frame_is (x : K.S26) (A : Option Addr) (c : Nat) (w : World) (hr : Kd.C K.k111 w A x.f2.f6.length x.f2.f6) (hc : x.f2.f6.length ≤ c) :
    Calls Try.prog 139 #[entV x A c] w fun e w' => ∃ v, e = .returned (.tuple #[v, .int .i64 (frameErr x)]) ∧ BR w' w.heap.size v (if frameErr x = 0 then entF x else []) ∧ Below w.heap.size w w' := by
  obtain ⟨w1, hw1⟩ : ∃ w1, w.alloc (entO x A c) = w1 := ⟨_, rfl⟩
  have hb1 : Below w.heap.size w w1 := by rw [← hw1]; exact (Below.refl _ _).alloc (Nat.le_refl _) _
  have hE1 : EntAt w1 w.heap.size x A c := by rw [← hw1]; exact World.alloc_heap_new w _
  have hP := putEntry_is x A c w1 (Kd.C_below hr hb1) hc
  have HP := Lib.hid hP
  have HB1 := Lib.hid hb1
  have HE1 := Lib.hid hE1
  have HW1 := Lib.hid hw1
  clear hP hb1 hE1 hr hw1
  obtain ⟨F, hF⟩ : ∃ F, frameErr x = F := ⟨_, rfl⟩
  rw [hF]
  obtain ⟨res, hres⟩ : ∃ res, (if F = 0 then entF x else []) = res := ⟨_, rfl⟩
  rw [hres]
  have HRES := Lib.hid hres
  clear hres
  unfold entV
  by_cases h0 : entryE x = 0
  · have hp : putEntryF x = (entryB x, 0) := put_ent h0
    have hP := HP.out
    rw [h0, hp] at hP
    have HP0 := Lib.hid hP
    unfold frameErr at hF
    rw [if_pos h0] at hF
    have HFF := Lib.hid hF
    clear hP hp hF h0 HP
    go_enter Try.func139, Try.ntmps139
    go_upto_region 1 with (fail)
    rw [HW1.out]
    obtain ⟨q0, q1, q2, q3, q4, q5, q6, q7, q8, q9⟩ := HE1.out.c
    go_wp2_with (first
      | (go_at_call 19; refine HP0.out.mono ?_; rintro e w2 ⟨v, rfl, hr, hb⟩; obtain ⟨A2, k2, rfl, hk2, hC2⟩ := BR.len hr; have hQ := wrap_any A2 k2 (entryB x) w2 hC2 (entryB_bytes x); rw [HFF.out] at hQ; have HQ := Lib.hid hQ; have HB2 := Lib.hid (HB1.out.trans (hb.mono HB1.out.size)); clear hr hb hC2 hQ hk2)
      | (go_at_call 21; refine HQ.out.mono ?_; rintro e w3 ⟨v, rfl, hr, hb⟩; obtain ⟨A3, k3, rfl, _, _⟩ := BR.len hr; have HR3 := Lib.hid (Kd.R_lower hr HB2.out.size); have HB3 := Lib.hid (HB2.out.trans (hb.mono HB2.out.size)); clear hr hb))
    go_ret2
    refine ⟨_, rfl, ?_, HB3.out⟩
    have h3 := HR3.out
    rw [← HRES.out]
    by_cases hz : F = 0
    · rw [if_pos hz]
      have h4 := wrap_ok (entryB x) (by rw [HFF.out]; exact hz)
      rw [h4] at h3 ⊢
      exact h3
    · rw [if_neg hz]
      have h4 := wrap_err (entryB x) (by rw [HFF.out]; exact hz)
      rw [h4] at h3 ⊢
      exact h3
  · unfold frameErr at hF
    rw [if_neg h0] at hF
    have hP := HP.out
    rw [hF] at hP h0
    have t0 : (F != 0) = true := by simpa using h0
    have HP0 := Lib.hid hP
    clear hP hF HP
    go_enter Try.func139, Try.ntmps139
    go_upto_region 1 with (fail)
    rw [HW1.out]
    obtain ⟨q0, q1, q2, q3, q4, q5, q6, q7, q8, q9⟩ := HE1.out.c
    go_wp2_with (go_at_call 19; refine HP0.out.mono ?_; rintro e w2 ⟨v, rfl, hr, hb⟩; obtain ⟨A2, k2, rfl, hk2, hC2⟩ := BR.len hr; have HB2 := Lib.hid (HB1.out.trans (hb.mono HB1.out.size)); clear hr hb hC2 hk2)
    go_ret2
    exact ⟨_, rfl, by rw [← HRES.out, if_neg h0]; exact Kd.R_nil _ _ _ _ _, HB2.out⟩

/-- A journal on a disk. -/
structure JS (w : World) (base J D : Nat) (vE v : Value) (es b : List Int) (s m : Int) : Prop where
  jat : JAt w J D vE
  row : ∃ A c, vE = .slice A es.length c ∧ es.length ≤ c ∧ Kd.C (Kd.int .i64) w A es.length es
  typ : ∀ k, vE.ownBlock = some k → base ≤ k ∧ ∃ cs, w.heap[k]? = some (.cells cs 3 (0, 0))
  disk : DiskS w base D v b s m
  jge : base ≤ J
/-- What an act on a journal may turn: its block, its disk's; what is new. -/
structure JStep (w w' : World) (J D : Nat) (v v' vE vE' : Value) : Prop where
  os : w'.os = w.os
  tape : w'.tape = w.tape
  output : w'.output = w.output
  size : w.heap.size ≤ w'.heap.size
  block : ∀ k, k < w.heap.size → k ≠ J → k ≠ D → some k ≠ v.ownBlock → w'.heap[k]? = w.heap[k]?
  row : v'.ownBlock = v.ownBlock ∨ ∃ b, v'.ownBlock = some b ∧ w.heap.size ≤ b
  ends : vE'.ownBlock = vE.ownBlock ∨ vE'.ownBlock = none ∨ ∃ b, vE'.ownBlock = some b ∧ w.heap.size ≤ b
section
variable {w w1 w2 : World} {base J D J' D' : Nat} {vE v vE' v' uE u : Value} {es es' b b' : List Int} {s m s' m' : Int}
theorem JS.lt (h : JS w base J D vE v es b s m) : J < w.heap.size := h.jat.lt
theorem C_typ {w w1 : World} {A : Option Addr} {n c : Nat} {xs : List Int} (h : Kd.C (Kd.int .i64) w A n xs) (hm : ∀ k, (Value.slice A n c).ownBlock = some k → w1.heap[k]? = w.heap[k]?) : Kd.C (Kd.int .i64) w1 A n xs :=
  C_moveK h (fun ad e => hm _ (by rw [e]; rfl))
/-- Its blocks stand: so does the journal; its disk is told anew. -/
theorem JS.move (h : JS w base J D vE v es b s m) (hJ : w1.heap[J]? = w.heap[J]?) (hE : ∀ k, vE.ownBlock = some k → w1.heap[k]? = w.heap[k]?) (hd : DiskS w1 base D v' b' s' m') : JS w1 base J D vE v' es b' s' m' := by
  obtain ⟨A, c, rfl, hc, hC⟩ := h.row
  exact ⟨h.jat.ne hJ, ⟨A, c, rfl, hc, C_typ hC hE⟩, fun k hk => ⟨(h.typ k hk).1, by rw [hE k hk]; exact (h.typ k hk).2⟩, hd, h.jge⟩
theorem JS.elt (h : JS w base J D vE v es b s m) (k : Nat) (hk : vE.ownBlock = some k) : k < w.heap.size := by
  obtain ⟨_, cs, hc⟩ := h.typ k hk
  exact (Array.getElem?_eq_some_iff.1 hc).1
theorem JS.below {n : Nat} (h : JS w base J D vE v es b s m) (hb : Below n w w1) (hn : w.heap.size ≤ n) : JS w1 base J D vE v es b s m :=
  h.move (hb.block _ (by have := h.lt; omega)) (fun k hk => hb.block _ (by have := h.elt k hk; omega)) (h.disk.below hb hn)
theorem JS.neD (h : JS w base J D vE v es b s m) : J ≠ D := fun e => by
  have h1 := h.jat
  have h2 := h.disk.cells
  subst e
  unfold JAt at h1
  unfold DiskAt at h2
  rw [h1] at h2
  cases h2
theorem JS.neV (h : JS w base J D vE v es b s m) : some J ≠ v.ownBlock := fun e => by
  obtain ⟨_, _, cur, hc⟩ := h.disk.row.block e.symm
  rw [show w.heap[J]? = _ from h.jat] at hc
  cases hc
theorem JS.eneD (h : JS w base J D vE v es b s m) (k : Nat) (hk : vE.ownBlock = some k) : k ≠ D := fun e => by
  obtain ⟨_, cs, hc⟩ := h.typ k hk
  subst e
  rw [show w.heap[k]? = _ from h.disk.cells] at hc
  cases hc
theorem JS.eneV (h : JS w base J D vE v es b s m) (k : Nat) (hk : vE.ownBlock = some k) : some k ≠ v.ownBlock := fun e => by
  obtain ⟨_, cs, hc⟩ := h.typ k hk
  obtain ⟨_, _, cur, hc'⟩ := h.disk.row.block e.symm
  rw [hc] at hc'
  cases hc'
/-- An act of its disk. -/
theorem JS.acted (h : JS w base J D vE v es b s m) (st : DStep w w1 D v v') (hd : DiskS w1 base D v' b' s' m') : JS w1 base J D vE v' es b' s' m' :=
  h.move (st.block _ h.lt h.neD h.neV) (fun k hk => st.block _ (h.elt k hk) (h.eneD k hk) (h.eneV k hk)) hd
theorem JStep.of_disk (J : Nat) (vE : Value) (st : DStep w w1 D v v') : JStep w w1 J D v v' vE vE := ⟨st.os, st.tape, st.output, st.size, fun k hk _ h1 h2 => st.block k hk h1 h2, st.row, .inl rfl⟩
theorem JStep.of_below (J D : Nat) (v vE : Value) (h : Below w.heap.size w w1) : JStep w w1 J D v v vE vE := ⟨h.os, h.tape, h.output, h.size, fun k hk _ _ _ => h.block k hk, .inl rfl, .inl rfl⟩
theorem JStep.trans {v1 v2 e0 e1 e2 : Value} (h : JStep w w1 J D v v1 e0 e1) (k : JStep w1 w2 J D v1 v2 e1 e2) : JStep w w2 J D v v2 e0 e2 := by
  refine ⟨k.os.trans h.os, k.tape.trans h.tape, k.output.trans h.output, Nat.le_trans h.size k.size, fun j hj hJ hD hv => (k.block j (by have := h.size; omega) hJ hD ?_).trans (h.block j hj hJ hD hv), ?_, ?_⟩
  · rcases h.row with e | ⟨b, e, hb⟩
    · rw [e]; exact hv
    · rw [e]; intro q; cases q; omega
  · rcases k.row with e | ⟨b, e, hb⟩
    · rw [e]; exact h.row
    · exact .inr ⟨b, e, by have := h.size; omega⟩
  · rcases k.ends with e | e | ⟨b, e, hb⟩
    · rw [e]; exact h.ends
    · exact .inr (.inl e)
    · exact .inr (.inr ⟨b, e, by have := h.size; omega⟩)
theorem JStep.belowJ (h : JStep w w1 J D v v' vE vE') (k : JS w base J D vE v es b s m) : Below base w w1 :=
  ⟨h.os, h.tape, h.output, h.size, fun i hi => h.block i (by have := k.lt; have := k.jge; omega) (by have := k.jge; omega) (by have := k.disk.at_; omega) (fun e => by have := (k.disk.row.block e.symm).1; omega)⟩
theorem jnone_is (h : JS w base J D vE v es b s m) : Calls Try.prog 137 #[.pointer (some ⟨J, 0, none⟩)] w fun e w' => e = .returned (.bool false) ∧ w = w' := by
  have c0 := h.jat.c0
  clear h
  go_enter Try.func137, Try.ntmps137
  go_wp2
  go_ret
  exact ⟨rfl, rfl⟩
theorem jlen_is (h : JS w base J D vE v es b s m) : Calls Try.prog 74 #[.pointer (some ⟨J, 0, none⟩)] w fun e w' => e = .returned (.int .i64 (es.length : Int)) ∧ w = w' := by
  have c1 := h.jat.c1
  obtain ⟨A, c, rfl, hc, hC⟩ := h.row
  have H := Lib.hid h
  clear h hC
  go_enter Try.func74, Try.ntmps74
  go_wp2_with (go_at_call 137; refine (jnone_is H.out).mono ?_; rintro e w' ⟨rfl, rfl⟩)
  go_ret
  exact ⟨rfl, rfl⟩
theorem jsync_is (h : JS w base J D vE v es b s m) : Calls Try.prog 77 #[.pointer (some ⟨J, 0, none⟩)] w fun e w' => e = .returned (.int .i64 0) ∧ JS w' base J D vE v es b (b.length : Int) m ∧ JStep w w' J D v v vE vE := by
  have c0 := h.jat.c0
  have H := Lib.hid h
  clear h
  go_enter Try.func77, Try.ntmps77
  go_wp2_with (first
    | (go_at_call 137; refine (jnone_is H.out).mono ?_; rintro e w' ⟨rfl, rfl⟩)
    | (go_at_call 32; refine (sync_is H.out.disk).mono ?_; rintro e w1 ⟨rfl, hd, hs⟩; have HD := Lib.hid hd; have HS := Lib.hid hs; clear hd hs))
  go_ret
  exact ⟨rfl, H.out.acted HS.out HD.out, JStep.of_disk _ _ HS.out⟩
end
end Go.Proofs.Ytmbnjgnmblgjoaa.Man
end

-- JAwake
section
/- Law 18's awake. -/

namespace Go.Proofs.Ytmbnjgnmblgjoaa.Man
open Go.RowKit Go.Shelf Go.Proofs.YtmbnjgnmblgjoaaW.PrintWords Go.Proofs.YtmbnjgnmblgjoaaW.PrintLast Go.Proofs.YtmbnjgnmblgjoaaW.PrintMore
set_option linter.unusedVariables false
set_option linter.unusedSimpArgs false
set_option maxRecDepth 100000

theorem log_nil : LogOf [] [] [] := ⟨rfl, fun x hx => (by cases hx), stop_nil⟩
set_option maxHeartbeats 4000000 in
theorem awake18_is (w : World) : Calls Try.prog 71 #[] w fun e w' => e = .returned (.bool true) ∧ Below w.heap.size w w' := by
  go_enter Try.func71, Try.ntmps71
  go_wp2_with (first
    | (go_at_call 26; refine (new_is 9 w w.heap.size (Nat.le_refl _) (by decide) (by decide)).mono ?_; rintro e w1 ⟨rfl, hd, hb⟩; have HD := Lib.hid hd; have HB := Lib.hid hb; clear hd hb)
    | (go_at_call 72; refine (jopen_is HD.out rfl log_nil).mono ?_; rintro e w2 ⟨J, vE, vL, v', rfl, hJ, hj, he, hl, hd, hs⟩; have HB2 := Lib.hid (HB.out.trans (hs.below HD.out)); obtain ⟨AL, cL, rfl, _, _⟩ := ER.C hl; clear hj he hl hd hs))
  go_ret
  exact ⟨rfl, HB2.out⟩
/-- The journal that an opening makes. -/
theorem JS.made {w w' : World} {base J B : Nat} {vE v' : Value} {es b : List Int} {s m : Int} (hb : base ≤ w.heap.size) (hJ : w.heap.size ≤ J) (hj : JAt w' J B vE) (he : IR w' w.heap.size vE es) (hd : DiskS w' base B v' b s m) : JS w' base J B vE v' es b s m :=
  ⟨hj, IR.len he, fun k hk => ⟨by have := R_ge he k hk; omega, R_typ he k hk⟩, hd, by omega⟩
/-- Rows of other types stand behind an act on a disk. -/
theorem DStep.Rt {α : Type} {d : Kd α} {e base base' B : Nat} {w w1 : World} {v v' u : Value} {ys : List α} {xs : List Int} {s m : Int} (st : DStep w w1 B v v') (hd : DiskS w base' B v xs s m) (h : d.R e w base (fun _ => True) u ys) (h1 : 5 ∉ e :: d.E) (h2 : 148 ∉ e :: d.E) : d.R e w1 base (fun _ => True) u ys :=
  Kd.R_mono (Kd.R_move (Kd.R_bound h) (fun k hk => by
    obtain ⟨_, _, hlt, q, hq, cs, hc⟩ := hk
    refine st.block k hlt (fun e => ?_) (fun e => ?_)
    · subst e
      rw [show w.heap[k]? = _ from hd.cells] at hc
      cases hc
      exact h2 hq
    · obtain ⟨_, _, cur, hc'⟩ := hd.row.block e.symm
      rw [hc] at hc'
      cases hc'
      exact h1 hq)) (fun _ _ => trivial)
end Go.Proofs.Ytmbnjgnmblgjoaa.Man
end
