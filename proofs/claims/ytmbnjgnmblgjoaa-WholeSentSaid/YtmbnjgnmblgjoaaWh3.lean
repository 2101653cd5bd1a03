-- Laid together by a program of this session (wip/tools/shake.py). Not trusted: Lean checks it.
import Derived.Test.YtmbnjgnmblgjoaaWh2

-- ReadDoc
section
/- codec's reader: tokens. -/

namespace Go.Proofs.Ytmbnjgnmblgjoaa.Man
open Go.RowKit Go.Proofs.YtmbnjgnmblgjoaaW.PrintWords Go.Proofs.YtmbnjgnmblgjoaaW.PrintLast Go.Proofs.YtmbnjgnmblgjoaaW.PrintMore
set_option linter.unusedVariables false
set_option linter.unusedSimpArgs false
set_option maxRecDepth 100000

/-- What a reading leaves: it panics with the error, or hands back what was read, the place behind it. -/
def RdP {α : Type} (w : World) (P : Nat) (A : Option Addr) (c : Nat) (b : List Int) (ret : α → Value → World → Prop) (res : Rd α) (e : Ending) (w' : World) : Prop :=
  w.grownBy w' (some P) ∧ match res with
  | .error f => e = .panicked (errCh f)
  | .ok (x, r) => ∃ v, e = .returned v ∧ ret x v w' ∧ SpotAt w' P A c b.length (b.length - r.length)
theorem RdP.err {α : Type} {w : World} {P : Nat} {A : Option Addr} {c : Nat} {b : List Int} {ret : α → Value → World → Prop} {res : Rd α} {f : Int} {w' : World} (hr : res = .error f) (hg : w.grownBy w' (some P)) : RdP w P A c b ret res (.panicked (errCh f)) w' := by
  subst hr
  exact ⟨hg, rfl⟩
theorem RdP.ok {α : Type} {w : World} {P : Nat} {A : Option Addr} {c : Nat} {b : List Int} {ret : α → Value → World → Prop} {res : Rd α} {x : α} {r : List Int} {v : Value} {w' : World} {q : Nat} (hr : res = .ok (x, r)) (hg : w.grownBy w' (some P)) (hv : ret x v w')
    (hs : SpotAt w' P A c b.length q) (hq : b.length - r.length = q) : RdP w P A c b ret res (.returned v) w' := by
  subst hr
  subst hq
  exact ⟨hg, v, rfl, hv, hs⟩
/-- What is left is the bytes from a place on. -/
theorem rnum_rest {top : Int} {b : List Int} {p : Nat} {n : Int} {r : List Int} (hB : areBytesN b = true) (hp : p ≤ b.length) (h : rnum top (b.drop p) = .ok (n, r)) : ∃ q, q ≤ b.length ∧ r = b.drop q ∧ b.length - r.length = q ∧ 0 ≤ n ∧ n ≤ top := by
  have h2 := rnum_inv (areBytesN_drop hB p) h
  rw [rnum_getF hp] at h
  split at h
  · cases h
  rename_i h0
  split at h
  · cases h
  obtain ⟨q, hq, hpq, hqb⟩ := getF_spot (p := p) hB (by omega)
  simp only [Except.ok.injEq, Prod.mk.injEq] at h
  rw [hq, Int.toNat_natCast] at h
  exact ⟨q, hqb, h.2.symm, by rw [← h.2, List.length_drop]; omega, h2.1, h2.2.1⟩

/-- A row of tokens of the call's own. -/
abbrev TR (w : World) (base : Nat) (v : Value) (xs : List K.S111) : Prop := Kd.R K.k111 111 w base (fun _ => True) v xs
theorem info_tok : (Try.prog.info? 111).map (fun i => (i.zero, i.size, i.bytes)) = some (some (.agg #[.int .i64 0, .int .i64 0, .int .i64 0, .int .i64 0]), 4, 32) := by kernel_rfl
theorem TR.push_ev {ops : Array Oper} {rest : List Oper} {o : Oper} {a : Act} {Q : Exit → Act → World → Prop} {w : World} {base : Nat} {v : Value} {xs : List K.S111} {k t n m : Int} {N : Nat} (hN : w.heap.size = N)
    (h : TR w base v xs) (hgd : o.guard = none) (s x : Operand) (ho : o.op = .call { callee := .builtin .append, args := #[s, x], argTypes := #[22, 22] })
    (hs : a.eval s = v) (hx : a.eval x = .slice (some ⟨N, 0, none⟩) 1 1) (hbase : base ≤ w.heap.size) (hl : xs.length ≤ 4000)
    (kk : ∀ v1 w1, TR w1 base v1 (xs ++ [⟨k, t, n, m⟩]) → Below base w w1 → wpList Try.prog ops Q rest (a.put o.dst v1) w1) : wpList Try.prog ops Q (o :: rest) a (w.alloc (.cells #[.int .i64 k, .int .i64 t, .int .i64 n, .int .i64 m] 111)) :=
  Kd.R_append K.k111 (w0 := w) base hgd s x 22 111 (.agg #[.int .i64 0, .int .i64 0, .int .i64 0, .int .i64 0]) 32 ho Try.underlying22 info_tok rfl (by decide) (by decide) v xs ⟨k, t, n, m⟩ [.int .i64 k, .int .i64 t, .int .i64 n, .int .i64 m] (fun _ => True) (fun _ => False) hs (by rw [hx, hN])
    (K.k111_mkM _ _ _ _) (fun _ h => h.elim) (fun _ _ => trivial) h (Below.refl _ _) hbase (by omega) (fun v1 w1 h1 h2 h3 h4 => kk v1 w1 h1 h2)
theorem TR.grown {w w1 : World} {base P : Nat} {v : Value} {xs : List K.S111} (h : TR w base v xs) (hg : w.grownBy w1 (some P)) (hP : P < base) : TR w1 base v xs :=
  Kd.R_mono (Kd.R_grown (Kd.R_bound h) hg (fun j hj e => by have h1 := hj.2.1; have h2 := Option.some.inj e; omega)) (fun _ _ => trivial)

theorem TR.over {w3 w4 : World} {base P : Nat} {v : Value} {xs : List K.S111} (h : TR w3 base v xs) (hg : w3.grownBy w4 (some P)) (hP : P < base) (T k : Nat) (u : Value) (hT : w3.heap.size ≤ T) : TR (w4.setCell ⟨T, k, none⟩ u) base v xs :=
  Kd.R_mono (Kd.R_grown (Kd.R_grown (Kd.R_bound h) hg (fun j hj e => by have h1 := hj.2.1; have h2 := Option.some.inj e; omega)) (grownBy_set w4 T k u (World.grownBy.refl w4 _)) (fun j hj e => by have h1 := hj.2.2.1; have h2 := Option.some.inj e; omega)) (fun _ _ => trivial)
theorem grown_onB {w w1 w2 : World} {r : Option Nat} {m : Nat} (hg : w.grownBy w1 r) (hb : Below m w1 w2) (hm : w.heap.size ≤ m) : w.grownBy w2 r :=
  ⟨hb.os.trans hg.os, hb.tape.trans hg.tape, hb.output.trans hg.output, Nat.le_trans hg.size hb.size, fun k hk hr => (hb.block k (by omega)).trans (hg.block k hk hr)⟩
theorem grown_setT {w w1 : World} {r : Option Nat} (hg : w.grownBy w1 r) (T k : Nat) (u : Value) (hT : w.heap.size ≤ T) : w.grownBy (w1.setCell ⟨T, k, none⟩ u) r :=
  ⟨hg.os, hg.tape, hg.output, by simpa [World.setCell] using hg.size, fun j hj hr => (Below.heap_setCell w1 ⟨T, k, none⟩ u j (by show j ≠ T; omega)).trans (hg.block j hj hr)⟩
/-- A block that holds a pointer. -/
def PtrAt (w : World) (R P : Nat) : Prop := w.heap[R]? = some (.cells #[.pointer (some ⟨P, 0, none⟩)] 140 (0, 0))
theorem PtrAt.c0 {w : World} {R P : Nat} (k : PtrAt w R P) : w.cell? ⟨R, 0, none⟩ = some (.pointer (some ⟨P, 0, none⟩)) := by simp [World.cell?, show w.heap[R]? = _ from k]
theorem PtrAt.lt {w : World} {R P : Nat} (k : PtrAt w R P) : R < w.heap.size := (Array.getElem?_eq_some_iff.1 k).1
theorem PtrAt.grown {w w1 : World} {R P : Nat} (k : PtrAt w R P) (hg : w.grownBy w1 (some P)) (hP : P < R) : PtrAt w1 R P := (hg.block _ k.lt (by intro e; have := Option.some.inj e; omega)).trans k
theorem SpotAt.grownB {w w1 : World} {P c n p m : Nat} {A : Option Addr} (k : SpotAt w P A c n p) (h : Below m w w1) (hm : P < m) : SpotAt w1 P A c n p := (h.block P hm).trans k

theorem and3 (k : Int) (h0 : 0 ≤ k) (h1 : k ≤ 2147483647) : Go.bits .and .i64 k 3 = k % 4 :=
  bits_mask .i64 63 (by decide) (fun n a b => by
    have b' : n < 9223372036854775808 := b
    rw [IntKind.wrap_i64]; omega) 2 (by decide) k h0 (by simp; omega)

theorem bnd_snoc {α : Type} (r : Rd (List α)) (ys : List α) (x : α) : bnd (bnd r fun xs l => (.ok (x :: xs, l) : Rd (List α))) (fun zs l => (.ok (ys ++ zs, l) : Rd (List α))) = bnd r fun zs l => .ok ((ys ++ [x]) ++ zs, l) := by
  rcases r with f | ⟨zs, l⟩
  · rfl
  · show (Except.ok (ys ++ x :: zs, l) : Rd (List α)) = .ok ((ys ++ [x]) ++ zs, l)
    rw [List.append_assoc]; rfl
theorem TokAt.f {w : World} {P : Nat} {x : K.S111} (k : TokAt w P x) (i : Nat) : w.frozen? ⟨P, i, none⟩ = false := by simp [World.frozen?, show w.heap[P]? = _ from k]

set_option maxHeartbeats 16000000 in
theorem sdoc_is {w0 w : World} {P c p : Nat} {A : Option Addr} {b : List Int} (hC : Kd.C (Kd.int .u8) w0 A b.length b) (hc : b.length ≤ c) (hB : areBytesN b = true) (hb : Below w0.heap.size w0 w) (hP : w0.heap.size ≤ P) (k : SpotAt w P A c b.length p) (hp : p ≤ b.length) :
    Calls Try.prog 125 #[.agg #[.pointer (some ⟨P, 0, none⟩)]] w (RdP w P A c b (fun xs v w' => TR w' w.heap.size v xs) (rdoc (b.drop p))) := by
  have hPl := k.lt
  obtain ⟨w1, hw1⟩ : ∃ w1, w1 = w.alloc (.cells #[.pointer (some ⟨P, 0, none⟩)] 140) := ⟨_, rfl⟩
  have hb1 : Below w.heap.size w w1 := by rw [hw1]; exact (Below.refl _ _).alloc (Nat.le_refl _) _
  have hR1 : PtrAt w1 w.heap.size P := by rw [hw1]; exact World.alloc_heap_new w _
  have hk1 : SpotAt w1 P A c b.length p := k.below hb1 hPl
  have hc1 := Kd.C_below hC (hb.trans (hb1.mono hb.size))
  have hg1 : w.grownBy w1 (some P) := grown_of_below hb1 _
  have HC := Lib.hid hC
  have HBB := Lib.hid hB
  have HG0 := Lib.hid (fun (W : World) (hg : w.grownBy W (some P)) => Kd.C_below hC (below_of_grown hb hg hP))
  clear k
  obtain ⟨X, hX⟩ : ∃ X, rdoc (b.drop p) = X := ⟨_, rfl⟩
  rw [hX]
  unfold rdoc at hX
  rcases hres : rnum 2048 (b.drop p) with f | ⟨n, r⟩
  · rw [hres, bnd_err] at hX
    have HN := Lib.hid (snum_err hk1 hc1 hc hB hp 2048 (by decide) (by decide) f hres)
    have HG1 := Lib.hid hg1
    have HX := Lib.hid hX.symm
    rw [hw1] at HN HG1
    clear hC hB hb hR1 hk1 hc1 hg1 hw1 hb1 hres hX HG0
    go_enter Try.func125, Try.ntmps125
    go_wp2_with (go_at_call 131; refine HN.out.mono ?_; rintro e w2 ⟨rfl, hg⟩; have HG2 := Lib.hid (HG1.out.trans hg); clear hg)
    exact ⟨rfl, RdP.err HX.out HG2.out⟩
  · obtain ⟨q, hq, rfl, hql, hn0, hn1⟩ := rnum_rest hB hp hres
    have hN := snum_ok hk1 hc1 hc hB hp 2048 (by decide) (by decide) n _ hres
    rw [hql] at hN
    rw [hres, bnd_ok] at hX
    obtain ⟨N, rfl⟩ : ∃ N : Nat, n = (N : Int) := ⟨n.toNat, by omega⟩
    rw [Int.toNat_natCast] at hX
    have HN := Lib.hid hN
    have HG1 := Lib.hid hg1
    have HX := Lib.hid hX.symm
    have HR1 := Lib.hid hR1
    have HW1 := Lib.hid hw1
    rw [hw1] at HN
    clear hC hB hb hR1 hk1 hc1 hg1 hw1 hb1 hres hX hN
    go_enter Try.func125, Try.ntmps125
    go_wp2_with (go_at_call 131; refine HN.out.mono ?_; rintro e w2 ⟨rfl, hk, hg⟩; rw [← HW1.out] at hg; have HK2 := Lib.hid hk; have HG2 := Lib.hid (HG1.out.trans hg); have HR2 := Lib.hid (HR1.out.grown hg hPl); clear hk hg)
    go_loopg [4, 11] N (fun g s4 s11 wr => ∃ (i q : Nat) (ys : List K.S111), s11 = .int .i64 i ∧ i ≤ N ∧ g = N - i ∧ q ≤ b.length ∧ ys.length = i ∧ Hid (X = bnd (rtoks (N - i) (b.drop q)) fun zs l => .ok (ys ++ zs, l)) ∧ Hid (TR wr (w.heap.size + 1) s4 ys) ∧ Hid (SpotAt wr P A c b.length q) ∧ Hid (w.grownBy wr (some P)) ∧ Hid (PtrAt wr w.heap.size P))
    case atStart => exact ⟨0, q, [], rfl, Nat.zero_le _, rfl, hq, rfl, Lib.hid (by
      rw [HX.out, Nat.sub_zero]
      rcases rtoks N (b.drop q) with f | ⟨zs, l⟩
      · rfl
      · rfl), Lib.hid (Kd.R_nil _ _ _ _ _), HK2, HG2, HR2⟩
    case round =>
      clear HX HK2 HG2 HR2 HN hql hq HG1 HR1 HW1
      obtain ⟨i, q1, ys, rfl, hi, hg, hq1, hyl, HX, HT, HK, HG, HR⟩ := hrel
      have r0 := HR.out.c0
      by_cases hlt : i < N
      · obtain ⟨d, hd⟩ : ∃ d, N - i = d + 1 := ⟨N - i - 1, by omega⟩
        have hd2 : N - (i + 1) = d := by omega
        have hX := HX.out
        rw [hd, rtoks] at hX
        unfold rtok most at hX
        have hwz : w.heap.size + 1 ≤ wr.heap.size := HR.out.lt
        have hcr := HG0.out wr HG.out
        clear HX
        rcases hres : rnum 2147483647 (b.drop q1) with f | ⟨kk, r⟩
        · rw [hres, bnd_err, bnd_err, bnd_err] at hX
          have HN := Lib.hid (snum_err HK.out hcr hc HBB.out hq1 2147483647 (by decide) (by decide) f hres)
          have HX := Lib.hid hX
          clear hres hX hcr hd hd2
          go_wp2_with (go_at_call 131; refine HN.out.mono ?_; rintro e w3 ⟨rfl, hg⟩; have HG3 := Lib.hid (HG.out.trans hg); clear hg)
          exact ⟨rfl, RdP.err HX.out HG3.out⟩
        · obtain ⟨q2, hq2, rfl, hql2, hk0, hk1⟩ := rnum_rest HBB.out hq1 hres
          have hN := snum_ok HK.out hcr hc HBB.out hq1 2147483647 (by decide) (by decide) kk _ hres
          rw [hql2] at hN
          rw [hres, bnd_ok] at hX
          have HN := Lib.hid hN
          have hand := and3 kk hk0 (by omega)
          obtain ⟨a, ha⟩ : ∃ a, kk % 4 = a := ⟨_, rfl⟩
          rw [ha] at hand
          have haa : a = 0 ∨ a = 1 ∨ a = 2 ∨ a = 3 := by omega
          have HA := Lib.hid ha
          have hyl2 : ys.length ≤ 2048 := by omega
          have HX := Lib.hid hX
          have HD := Lib.hid hd2
          clear hres hX hcr hd hN hd2 ha
          go_upto_region 6 with (go_at_call 131; refine HN.out.mono ?_; rintro e w3 ⟨rfl, hk, hg⟩; have HK3 := Lib.hid hk; have HG3 := Lib.hid (HG.out.trans hg); have HR3 := Lib.hid (HR.out.grown hg hPl); have HT3 := Lib.hid (HT.out.grown hg (by omega)); clear hk hg)
          rcases haa with rfl | rfl | rfl | rfl
          · have hX := HX.out
            rw [HA.out, if_pos rfl] at hX
            have hbt : Below w3.heap.size w3 (w3.alloc (.cells #[.int .i64 0, .int .i64 0, .int .i64 (kk / 4), .int .i64 0] 111)) := (Below.refl _ _).alloc (Nat.le_refl _) _
            have HTK : Hid (TokAt (w3.alloc (.cells #[.int .i64 0, .int .i64 0, .int .i64 (kk / 4), .int .i64 0] 111)) w3.heap.size ⟨0, 0, kk / 4, 0⟩) := Lib.hid (World.alloc_heap_new w3 _)
            have hGt : w.grownBy (w3.alloc (.cells #[.int .i64 0, .int .i64 0, .int .i64 (kk / 4), .int .i64 0] 111)) (some P) := HG3.out.trans (grown_of_below hbt _)
            have hKt := HK3.out.grownB hbt HK3.out.lt
            have rt := (HR3.out.grown (grown_of_below hbt _) hPl).c0
            have hCt := HG0.out _ hGt
            have HGT := Lib.hid hGt
            have HBT := Lib.hid hbt
            rcases hres : rnum 2147483647 (b.drop q2) with f | ⟨m, r⟩
            · rw [hres] at hX
              have HN2 := Lib.hid (snum_err hKt hCt hc HBB.out hq2 2147483647 (by decide) (by decide) f hres)
              have HX2 := Lib.hid (show X = .error f from hX)
              clear hres hX hbt hGt hKt hCt HX HTK
              go_wp2_with (go_at_call 131; refine HN2.out.mono ?_; rintro e w4 ⟨rfl, hg⟩; have HG4 := Lib.hid (HGT.out.trans hg); clear hg)
              exact ⟨rfl, RdP.err HX2.out HG4.out⟩
            · obtain ⟨q3, hq3, rfl, hql3, hm0, hm1⟩ := rnum_rest HBB.out hq2 hres
              have hN2 := snum_ok hKt hCt hc HBB.out hq2 2147483647 (by decide) (by decide) m _ hres
              rw [hql3] at hN2
              rw [hres] at hX
              have HN2 := Lib.hid hN2
              have HX2 : Hid (X = bnd (rtoks (N - (i + 1)) (b.drop q3)) fun zs l => .ok ((ys ++ [⟨0, 0, kk / 4, m⟩]) ++ zs, l)) := Lib.hid (by rw [HD.out, ← bnd_snoc]; exact hX)
              clear hres hX hbt hGt hKt hCt hN2 HX HN
              go_wp2_with (first
                | (go_at_call 131; refine HN2.out.mono ?_; rintro e w4 ⟨rfl, hk, hg⟩; have HK4 := Lib.hid hk; have hT4 : TokAt w4 w3.heap.size ⟨0, 0, kk / 4, 0⟩ := (hg.block _ HTK.out.lt (by intro e; have e2 := Option.some.inj e; have := HK3.out.lt; omega)).trans HTK.out; have d0 := hT4.c0; have d1 := hT4.c1; have d2 := hT4.c2; have d3 := hT4.c3; have df := hT4.f 3; have HG4 := Lib.hid (HGT.out.trans hg); have HT4 := Lib.hid (TR.over HT3.out ((grown_of_below HBT.out _).trans hg) (by omega) w3.heap.size 3 (.int .i64 m) (Nat.le_refl _)); have HR4 := Lib.hid ((HR3.out.grown (grown_of_below HBT.out _) hPl).grown hg hPl); have HZ4 : Hid (w3.heap.size < w4.heap.size) := Lib.hid hT4.lt; clear hk hg hT4)
                | (at_builtin; refine TR.push_ev (w := w4.setCell ⟨w3.heap.size, 3, none⟩ (.int .i64 m)) (N := w4.heap.size) (by simp [World.setCell]) HT4.out rfl (.tmp 36) (.tmp 38) rfl rfl rfl (by have := HR4.out.lt; simp [World.setCell]; omega) (by omega) ?_; intro v5 w5 hr5 hb5; have HT5 := Lib.hid hr5; have HG5 := Lib.hid (grown_onB (grown_setT HG4.out w3.heap.size 3 (.int .i64 m) HG3.out.size) hb5 (Nat.le_succ _)); have HR5 : Hid (PtrAt w5 w.heap.size P) := Lib.hid ((hb5.block _ (Nat.lt_succ_self _)).trans ((Below.heap_setCell w4 _ _ _ (by have := HR3.out.lt; show w.heap.size ≠ w3.heap.size; omega)).trans HR4.out)); have HK5 : Hid (SpotAt w5 P A c b.length q3) := Lib.hid ((hb5.block _ (by omega)).trans ((Below.heap_setCell w4 _ _ _ (by have := HK3.out.lt; show P ≠ w3.heap.size; omega)).trans HK4.out)); clear hr5 hb5))
              go_roundg (N - (i + 1))
              case measure => omega
              case rel => exact ⟨i + 1, q3, ys ++ [⟨0, 0, kk / 4, m⟩], by go_num, by omega, rfl, hq3, by rw [List.length_append, hyl]; rfl, HX2, HT5, HK5, HG5, HR5⟩
          · have hX := HX.out
            rw [HA.out, if_neg (by decide), if_pos (by decide)] at hX
            have hbt : Below w3.heap.size w3 (w3.alloc (.cells #[.int .i64 1, .int .i64 0, .int .i64 (kk / 4), .int .i64 0] 111)) := (Below.refl _ _).alloc (Nat.le_refl _) _
            have HTK : Hid (TokAt (w3.alloc (.cells #[.int .i64 1, .int .i64 0, .int .i64 (kk / 4), .int .i64 0] 111)) w3.heap.size ⟨1, 0, kk / 4, 0⟩) := Lib.hid (World.alloc_heap_new w3 _)
            have hGt : w.grownBy (w3.alloc (.cells #[.int .i64 1, .int .i64 0, .int .i64 (kk / 4), .int .i64 0] 111)) (some P) := HG3.out.trans (grown_of_below hbt _)
            have hKt := HK3.out.grownB hbt HK3.out.lt
            have rt := (HR3.out.grown (grown_of_below hbt _) hPl).c0
            have hCt := HG0.out _ hGt
            have HGT := Lib.hid hGt
            have HBT := Lib.hid hbt
            rcases hres : rnum 2147483647 (b.drop q2) with f | ⟨m, r⟩
            · rw [hres] at hX
              have HN2 := Lib.hid (snum_err hKt hCt hc HBB.out hq2 2147483647 (by decide) (by decide) f hres)
              have HX2 := Lib.hid (show X = .error f from hX)
              clear hres hX hbt hGt hKt hCt HX HTK
              go_wp2_with (go_at_call 131; refine HN2.out.mono ?_; rintro e w4 ⟨rfl, hg⟩; have HG4 := Lib.hid (HGT.out.trans hg); clear hg)
              exact ⟨rfl, RdP.err HX2.out HG4.out⟩
            · obtain ⟨q3, hq3, rfl, hql3, hm0, hm1⟩ := rnum_rest HBB.out hq2 hres
              have hN2 := snum_ok hKt hCt hc HBB.out hq2 2147483647 (by decide) (by decide) m _ hres
              rw [hql3] at hN2
              rw [hres] at hX
              have HN2 := Lib.hid hN2
              have HX2 : Hid (X = bnd (rtoks (N - (i + 1)) (b.drop q3)) fun zs l => .ok ((ys ++ [⟨1, m, kk / 4, 0⟩]) ++ zs, l)) := Lib.hid (by rw [HD.out, ← bnd_snoc]; exact hX)
              clear hres hX hbt hGt hKt hCt hN2 HX HN
              go_wp2_with (first
                | (go_at_call 131; refine HN2.out.mono ?_; rintro e w4 ⟨rfl, hk, hg⟩; have HK4 := Lib.hid hk; have hT4 : TokAt w4 w3.heap.size ⟨1, 0, kk / 4, 0⟩ := (hg.block _ HTK.out.lt (by intro e; have e2 := Option.some.inj e; have := HK3.out.lt; omega)).trans HTK.out; have d0 := hT4.c0; have d1 := hT4.c1; have d2 := hT4.c2; have d3 := hT4.c3; have df := hT4.f 1; have HG4 := Lib.hid (HGT.out.trans hg); have HT4 := Lib.hid (TR.over HT3.out ((grown_of_below HBT.out _).trans hg) (by omega) w3.heap.size 1 (.int .i64 m) (Nat.le_refl _)); have HR4 := Lib.hid ((HR3.out.grown (grown_of_below HBT.out _) hPl).grown hg hPl); have HZ4 : Hid (w3.heap.size < w4.heap.size) := Lib.hid hT4.lt; clear hk hg hT4)
                | (at_builtin; refine TR.push_ev (w := w4.setCell ⟨w3.heap.size, 1, none⟩ (.int .i64 m)) (N := w4.heap.size) (by simp [World.setCell]) HT4.out rfl (.tmp 36) (.tmp 38) rfl rfl rfl (by have := HR4.out.lt; simp [World.setCell]; omega) (by omega) ?_; intro v5 w5 hr5 hb5; have HT5 := Lib.hid hr5; have HG5 := Lib.hid (grown_onB (grown_setT HG4.out w3.heap.size 1 (.int .i64 m) HG3.out.size) hb5 (Nat.le_succ _)); have HR5 : Hid (PtrAt w5 w.heap.size P) := Lib.hid ((hb5.block _ (Nat.lt_succ_self _)).trans ((Below.heap_setCell w4 _ _ _ (by have := HR3.out.lt; show w.heap.size ≠ w3.heap.size; omega)).trans HR4.out)); have HK5 : Hid (SpotAt w5 P A c b.length q3) := Lib.hid ((hb5.block _ (by omega)).trans ((Below.heap_setCell w4 _ _ _ (by have := HK3.out.lt; show P ≠ w3.heap.size; omega)).trans HK4.out)); clear hr5 hb5))
              go_roundg (N - (i + 1))
              case measure => omega
              case rel => exact ⟨i + 1, q3, ys ++ [⟨1, m, kk / 4, 0⟩], by go_num, by omega, rfl, hq3, by rw [List.length_append, hyl]; rfl, HX2, HT5, HK5, HG5, HR5⟩
          · have hX := HX.out
            rw [HA.out, if_neg (by decide), if_neg (by decide)] at hX
            have HX2 : Hid (X = bnd (rtoks (N - (i + 1)) (b.drop q2)) fun zs l => .ok ((ys ++ [⟨2, 0, kk / 4, 0⟩]) ++ zs, l)) := Lib.hid (by rw [HD.out, ← bnd_snoc]; exact hX)
            have hbt : Below w3.heap.size w3 (w3.alloc (.cells #[.int .i64 2, .int .i64 0, .int .i64 (kk / 4), .int .i64 0] 111)) := (Below.refl _ _).alloc (Nat.le_refl _) _
            have HKT := Lib.hid (HK3.out.grownB hbt HK3.out.lt)
            have HGT := Lib.hid (HG3.out.trans (grown_of_below hbt (some P)))
            have HRT := Lib.hid (HR3.out.grown (grown_of_below hbt _) hPl)
            have HTT := Lib.hid (HT3.out.grown (grown_of_below hbt (some P)) (by omega))
            have HZT : Hid (w.heap.size + 1 ≤ (w3.alloc (.cells #[.int .i64 2, .int .i64 0, .int .i64 (kk / 4), .int .i64 0] 111)).heap.size) := Lib.hid HRT.out.lt
            clear hX hbt HX HN
            go_wp2_with (at_builtin; refine TR.push_ev (w := w3.alloc (.cells #[.int .i64 2, .int .i64 0, .int .i64 (kk / 4), .int .i64 0] 111)) (N := w3.heap.size + 1) (World.size_alloc _ _) HTT.out rfl (.tmp 36) (.tmp 38) rfl rfl rfl HZT.out (by omega) ?_; intro v5 w5 hr5 hb5; have HT5 := Lib.hid hr5; have HG5 := Lib.hid (grown_onB HGT.out hb5 (Nat.le_succ _)); have HR5 : Hid (PtrAt w5 w.heap.size P) := Lib.hid ((hb5.block _ (Nat.lt_succ_self _)).trans HRT.out); have HK5 : Hid (SpotAt w5 P A c b.length q2) := Lib.hid ((hb5.block _ (by omega)).trans HKT.out); clear hr5 hb5)
            go_roundg (N - (i + 1))
            case measure => omega
            case rel => exact ⟨i + 1, q2, ys ++ [⟨2, 0, kk / 4, 0⟩], by go_num, by omega, rfl, hq2, by rw [List.length_append, hyl]; rfl, HX2, HT5, HK5, HG5, HR5⟩
          · have hX := HX.out
            rw [HA.out, if_neg (by decide), if_pos (by decide)] at hX
            have hbt : Below w3.heap.size w3 (w3.alloc (.cells #[.int .i64 3, .int .i64 0, .int .i64 (kk / 4), .int .i64 0] 111)) := (Below.refl _ _).alloc (Nat.le_refl _) _
            have HTK : Hid (TokAt (w3.alloc (.cells #[.int .i64 3, .int .i64 0, .int .i64 (kk / 4), .int .i64 0] 111)) w3.heap.size ⟨3, 0, kk / 4, 0⟩) := Lib.hid (World.alloc_heap_new w3 _)
            have hGt : w.grownBy (w3.alloc (.cells #[.int .i64 3, .int .i64 0, .int .i64 (kk / 4), .int .i64 0] 111)) (some P) := HG3.out.trans (grown_of_below hbt _)
            have hKt := HK3.out.grownB hbt HK3.out.lt
            have rt := (HR3.out.grown (grown_of_below hbt _) hPl).c0
            have hCt := HG0.out _ hGt
            have HGT := Lib.hid hGt
            have HBT := Lib.hid hbt
            rcases hres : rnum 2147483647 (b.drop q2) with f | ⟨m, r⟩
            · rw [hres] at hX
              have HN2 := Lib.hid (snum_err hKt hCt hc HBB.out hq2 2147483647 (by decide) (by decide) f hres)
              have HX2 := Lib.hid (show X = .error f from hX)
              clear hres hX hbt hGt hKt hCt HX HTK
              go_wp2_with (go_at_call 131; refine HN2.out.mono ?_; rintro e w4 ⟨rfl, hg⟩; have HG4 := Lib.hid (HGT.out.trans hg); clear hg)
              exact ⟨rfl, RdP.err HX2.out HG4.out⟩
            · obtain ⟨q3, hq3, rfl, hql3, hm0, hm1⟩ := rnum_rest HBB.out hq2 hres
              have hN2 := snum_ok hKt hCt hc HBB.out hq2 2147483647 (by decide) (by decide) m _ hres
              rw [hql3] at hN2
              rw [hres] at hX
              have HN2 := Lib.hid hN2
              have HX2 : Hid (X = bnd (rtoks (N - (i + 1)) (b.drop q3)) fun zs l => .ok ((ys ++ [⟨3, m, kk / 4, 0⟩]) ++ zs, l)) := Lib.hid (by rw [HD.out, ← bnd_snoc]; exact hX)
              clear hres hX hbt hGt hKt hCt hN2 HX HN
              go_wp2_with (first
                | (go_at_call 131; refine HN2.out.mono ?_; rintro e w4 ⟨rfl, hk, hg⟩; have HK4 := Lib.hid hk; have hT4 : TokAt w4 w3.heap.size ⟨3, 0, kk / 4, 0⟩ := (hg.block _ HTK.out.lt (by intro e; have e2 := Option.some.inj e; have := HK3.out.lt; omega)).trans HTK.out; have d0 := hT4.c0; have d1 := hT4.c1; have d2 := hT4.c2; have d3 := hT4.c3; have df := hT4.f 1; have HG4 := Lib.hid (HGT.out.trans hg); have HT4 := Lib.hid (TR.over HT3.out ((grown_of_below HBT.out _).trans hg) (by omega) w3.heap.size 1 (.int .i64 m) (Nat.le_refl _)); have HR4 := Lib.hid ((HR3.out.grown (grown_of_below HBT.out _) hPl).grown hg hPl); have HZ4 : Hid (w3.heap.size < w4.heap.size) := Lib.hid hT4.lt; clear hk hg hT4)
                | (at_builtin; refine TR.push_ev (w := w4.setCell ⟨w3.heap.size, 1, none⟩ (.int .i64 m)) (N := w4.heap.size) (by simp [World.setCell]) HT4.out rfl (.tmp 36) (.tmp 38) rfl rfl rfl (by have := HR4.out.lt; simp [World.setCell]; omega) (by omega) ?_; intro v5 w5 hr5 hb5; have HT5 := Lib.hid hr5; have HG5 := Lib.hid (grown_onB (grown_setT HG4.out w3.heap.size 1 (.int .i64 m) HG3.out.size) hb5 (Nat.le_succ _)); have HR5 : Hid (PtrAt w5 w.heap.size P) := Lib.hid ((hb5.block _ (Nat.lt_succ_self _)).trans ((Below.heap_setCell w4 _ _ _ (by have := HR3.out.lt; show w.heap.size ≠ w3.heap.size; omega)).trans HR4.out)); have HK5 : Hid (SpotAt w5 P A c b.length q3) := Lib.hid ((hb5.block _ (by omega)).trans ((Below.heap_setCell w4 _ _ _ (by have := HK3.out.lt; show P ≠ w3.heap.size; omega)).trans HK4.out)); clear hr5 hb5))
              go_roundg (N - (i + 1))
              case measure => omega
              case rel => exact ⟨i + 1, q3, ys ++ [⟨3, m, kk / 4, 0⟩], by go_num, by omega, rfl, hq3, by rw [List.length_append, hyl]; rfl, HX2, HT5, HK5, HG5, HR5⟩
      · obtain rfl : i = N := by omega
        have hX := HX.out
        rw [Nat.sub_self, rtoks, bnd_ok, List.append_nil] at hX
        have HXX := Lib.hid hX
        clear hX HX
        go_wp2
        go_ret
        exact RdP.ok HXX.out HG.out (Kd.R_lower HT.out (Nat.le_succ _)) HK.out (by rw [List.length_drop]; omega)
end Go.Proofs.Ytmbnjgnmblgjoaa.Man
end

-- ReadEnt
section
/- codec's reader: an entry. Printed by wip/tools/gen_readent.py. -/


namespace Go.Proofs.Ytmbnjgnmblgjoaa.Man
open Go.RowKit Go.Proofs.YtmbnjgnmblgjoaaW.PrintWords Go.Proofs.YtmbnjgnmblgjoaaW.PrintLast Go.Proofs.YtmbnjgnmblgjoaaW.PrintMore
set_option linter.unusedVariables false
set_option linter.unusedSimpArgs false
set_option maxRecDepth 100000

/-- A call of a Go function in a region, by its contract; it may panic. -/
theorem goesP_ {P : Program} {ops : Array Oper} {Q : Exit → Act → World → Prop} {oi : Oper} {N : Option Tmp} {a : Act} {w : World} {K : Act → World → Prop} {f : FuncId} {fn : Func} {ags : Array Operand} {ts : Array TypeId} (hf : P.funcs[f]? = some fn) (hname : (fn.name == "runtime.NumGoroutine") = false) (hb : fn.body.isSome = true) (args : Array Value)
    (hw : Region.wanted oi (yielded ops a.tmps) = true) (hN : oi.dst = N) (hop : oi.op = .call { callee := .value (.func f), args := ags, argTypes := ts }) (hargs : ags.map a.eval = args)
    (h : Calls P f args w fun e w' => (∃ v, e = .returned v ∧ K (a.put N v) w') ∨ ∃ ch, e = .panicked ch ∧ Q (.panic ch) a w') : if Region.wanted oi (yielded ops a.tmps) = true then Oper.wp P oi a w K Q else K (a.put N undef) w := by
  have he := enters_ hf hname hb args w
  have hrun : (execOp a.eval oi).run P w = .ok (.enter f args) w := by
    unfold execOp
    simp [hop, resolve, Deferred.ofValue, invoke, Act.eval, hargs, he]
  rw [if_pos hw]
  subst hN
  unfold Oper.wp
  rw [hrun, Oper.upon_enter]
  refine h.mono fun e w'' hh => ?_
  rcases hh with ⟨v, rfl, hk⟩ | ⟨ch, rfl, hk⟩
  · exact hk
  · exact hk

/-- An entry's block, its slice any value. -/
def EntC (w : World) (E : Nat) (a0 a1 a2 a3 a4 a5 a6 a7 : Int) (v : Value) (a9 : Int) : Prop := w.heap[E]? = some (.cells #[.int .i64 a0, .int .i64 a1, .int .i64 a2, .int .i64 a3, .int .i64 a4, .int .i64 a5, .int .i64 a6, .int .i64 a7, v, .int .i64 a9] 26 (0, 0))
/-- What a reading of an entry stands at: the place, the reader's box, the entry's block. -/
structure EnS (w W : World) (P : Nat) (A : Option Addr) (c n q : Nat) (a0 a1 a2 a3 a4 a5 a6 a7 : Int) (v : Value) (a9 : Int) : Prop where
  spot : SpotAt W P A c n q
  ptr : PtrAt W w.heap.size P
  ent : EntC W (w.heap.size + 1) a0 a1 a2 a3 a4 a5 a6 a7 v a9
  grown : w.grownBy W (some P)
section
variable {w W W' : World} {P c n q q' : Nat} {A : Option Addr} {a0 a1 a2 a3 a4 a5 a6 a7 a9 : Int} {v : Value}
theorem EnS.size (h : EnS w W P A c n q a0 a1 a2 a3 a4 a5 a6 a7 v a9) : w.heap.size + 2 ≤ W.heap.size := (Array.getElem?_eq_some_iff.1 h.ent).1
theorem EnS.num (h : EnS w W P A c n q a0 a1 a2 a3 a4 a5 a6 a7 v a9) (hP : P < w.heap.size) (hk : SpotAt W' P A c n q') (hg : W.grownBy W' (some P)) : EnS w W' P A c n q' a0 a1 a2 a3 a4 a5 a6 a7 v a9 :=
  ⟨hk, h.ptr.grown hg hP, (hg.block _ (Array.getElem?_eq_some_iff.1 h.ent).1 (by intro e; have e2 := Option.some.inj e; omega)).trans h.ent, h.grown.trans hg⟩
theorem EnS.below (h : EnS w W P A c n q a0 a1 a2 a3 a4 a5 a6 a7 v a9) (hP : P < w.heap.size) (hb : Below W.heap.size W W') : EnS w W' P A c n q a0 a1 a2 a3 a4 a5 a6 a7 v a9 :=
  h.num hP (h.spot.below hb h.spot.lt) (grown_of_below hb _)
theorem EnS.drew (h : EnS w W P A c n q a0 a1 a2 a3 a4 a5 a6 a7 v a9) (hP : P < w.heap.size) : EnS w W.drew P A c n q a0 a1 a2 a3 a4 a5 a6 a7 v a9 := h.below hP (below_drew1 (Below.refl _ _))
theorem EnS.f (h : EnS w W P A c n q a0 a1 a2 a3 a4 a5 a6 a7 v a9) (i : Nat) : W.frozen? ⟨w.heap.size + 1, i, none⟩ = false := by simp [World.frozen?, show W.heap[w.heap.size + 1]? = _ from h.ent]
theorem EnS.put (h : EnS w W P A c n q a0 a1 a2 a3 a4 a5 a6 a7 v a9) (hP : P < w.heap.size) (i : Nat) (u : Value) {b0 b1 b2 b3 b4 b5 b6 b7 b9 : Int} {v' : Value}
    (he : (#[.int .i64 a0, .int .i64 a1, .int .i64 a2, .int .i64 a3, .int .i64 a4, .int .i64 a5, .int .i64 a6, .int .i64 a7, v, .int .i64 a9] : Array Value).setIfInBounds i u = #[.int .i64 b0, .int .i64 b1, .int .i64 b2, .int .i64 b3, .int .i64 b4, .int .i64 b5, .int .i64 b6, .int .i64 b7, v', .int .i64 b9]) :
    EnS w (W.setCell ⟨w.heap.size + 1, i, none⟩ u) P A c n q b0 b1 b2 b3 b4 b5 b6 b7 v' b9 := by
  refine ⟨(Below.heap_setCell W _ _ _ (by show P ≠ w.heap.size + 1; omega)).trans h.spot, (Below.heap_setCell W _ _ _ (by show w.heap.size ≠ w.heap.size + 1; omega)).trans h.ptr, ?_, grown_setT h.grown _ _ _ (Nat.le_succ _)⟩
  unfold EntC World.setCell
  have h1 := h.ent
  unfold EntC at h1
  have he2 := congrArg Array.toList he
  simp [Array.getElem?_modify, h1]
  simpa using he2
theorem EnS.c0 (h : EnS w W P A c n q a0 a1 a2 a3 a4 a5 a6 a7 v a9) : W.cell? ⟨w.heap.size + 1, 0, none⟩ = some (.int .i64 a0) := by simp [World.cell?, show W.heap[w.heap.size + 1]? = _ from h.ent]
theorem EnS.c1 (h : EnS w W P A c n q a0 a1 a2 a3 a4 a5 a6 a7 v a9) : W.cell? ⟨w.heap.size + 1, 1, none⟩ = some (.int .i64 a1) := by simp [World.cell?, show W.heap[w.heap.size + 1]? = _ from h.ent]
theorem EnS.c2 (h : EnS w W P A c n q a0 a1 a2 a3 a4 a5 a6 a7 v a9) : W.cell? ⟨w.heap.size + 1, 2, none⟩ = some (.int .i64 a2) := by simp [World.cell?, show W.heap[w.heap.size + 1]? = _ from h.ent]
theorem EnS.c3 (h : EnS w W P A c n q a0 a1 a2 a3 a4 a5 a6 a7 v a9) : W.cell? ⟨w.heap.size + 1, 3, none⟩ = some (.int .i64 a3) := by simp [World.cell?, show W.heap[w.heap.size + 1]? = _ from h.ent]
theorem EnS.c4 (h : EnS w W P A c n q a0 a1 a2 a3 a4 a5 a6 a7 v a9) : W.cell? ⟨w.heap.size + 1, 4, none⟩ = some (.int .i64 a4) := by simp [World.cell?, show W.heap[w.heap.size + 1]? = _ from h.ent]
theorem EnS.c5 (h : EnS w W P A c n q a0 a1 a2 a3 a4 a5 a6 a7 v a9) : W.cell? ⟨w.heap.size + 1, 5, none⟩ = some (.int .i64 a5) := by simp [World.cell?, show W.heap[w.heap.size + 1]? = _ from h.ent]
theorem EnS.c6 (h : EnS w W P A c n q a0 a1 a2 a3 a4 a5 a6 a7 v a9) : W.cell? ⟨w.heap.size + 1, 6, none⟩ = some (.int .i64 a6) := by simp [World.cell?, show W.heap[w.heap.size + 1]? = _ from h.ent]
theorem EnS.c7 (h : EnS w W P A c n q a0 a1 a2 a3 a4 a5 a6 a7 v a9) : W.cell? ⟨w.heap.size + 1, 7, none⟩ = some (.int .i64 a7) := by simp [World.cell?, show W.heap[w.heap.size + 1]? = _ from h.ent]
theorem EnS.c8 (h : EnS w W P A c n q a0 a1 a2 a3 a4 a5 a6 a7 v a9) : W.cell? ⟨w.heap.size + 1, 8, none⟩ = some (v) := by simp [World.cell?, show W.heap[w.heap.size + 1]? = _ from h.ent]
theorem EnS.c9 (h : EnS w W P A c n q a0 a1 a2 a3 a4 a5 a6 a7 v a9) : W.cell? ⟨w.heap.size + 1, 9, none⟩ = some (.int .i64 a9) := by simp [World.cell?, show W.heap[w.heap.size + 1]? = _ from h.ent]
end
theorem TR.set {w : World} {base E : Nat} {v : Value} {xs : List K.S111} (h : TR w base v xs) (hE : E < base) (k : Nat) (u : Value) : TR (w.setCell ⟨E, k, none⟩ u) base v xs := h.grown (grownBy_set w E k u (World.grownBy.refl w _)) hE
theorem RdP.err_inv {α : Type} {w : World} {P : Nat} {A : Option Addr} {c : Nat} {b : List Int} {ret : α → Value → World → Prop} {f : Int} {e : Ending} {w' : World} (h : RdP w P A c b ret (.error f) e w') : e = .panicked (errCh f) ∧ w.grownBy w' (some P) := ⟨h.2, h.1⟩
theorem RdP.ok_inv {α : Type} {w : World} {P : Nat} {A : Option Addr} {c : Nat} {b : List Int} {ret : α → Value → World → Prop} {x : α} {r : List Int} {e : Ending} {w' : World} (h : RdP w P A c b ret (.ok (x, r)) e w') : ∃ v, e = .returned v ∧ ret x v w' ∧ SpotAt w' P A c b.length (b.length - r.length) ∧ w.grownBy w' (some P) := by
  obtain ⟨hg, v, he, hv, hs⟩ := h
  exact ⟨v, he, hv, hs, hg⟩
/-- An entry handed back. -/
def EntR (base : Nat) (x : K.S26) (r : Value) (w' : World) : Prop := ∃ u, r = .agg #[.int .i64 x.f0, .int .i64 x.f1, .int .i64 x.f2.f0, .int .i64 x.f2.f1, .int .i64 x.f2.f2, .int .i64 x.f2.f3, .int .i64 x.f2.f4, .int .i64 x.f2.f5, u, .int .i64 x.f2.f7] ∧ TR w' base u x.f2.f6
def entR1.T : Bool × List (List Nat × List Nat) := (true, [([], []), ([0], [0]), ([1], [1]), ([], []), ([3], [3]), ([4, 2], [4]), ([0, 1, 2, 5], []), ([6, 2, 5, 0, 1, 2, 5], [2, 6]), ([0, 1, 2, 3, 4, 5, 6, 7], []), ([8, 5, 7, 0, 1, 2, 3, 4, 5, 6, 7], [5, 8])])
def entR1.B : List Nat := [0, 1, 3, 0, 8, 31, 63, 127, 255, 511]
theorem entR1.tab : rtab .any (opsOf Try.f94 1) = entR1.T := by kernel_rfl
theorem entR1.bits : waitsOk entR1.T.2 entR1.B = true := by kernel_rfl
def entR3.T : Bool × List (List Nat × List Nat) := (true, [([], []), ([], []), ([], []), ([], []), ([3], [3]), ([4], [4]), ([], []), ([6], [6]), ([7, 5], [7]), ([], []), ([9], [9]), ([10, 8], [10]), ([0, 0, 3, 4, 5, 8, 11], [0]), ([12, 0, 3, 4, 5, 8, 11], [12]), ([13, 5, 11, 0, 3, 4, 5, 8, 11], [5, 13]), ([1, 0, 1, 3, 4, 5, 6, 7, 8, 11, 12, 13, 14], [1]), ([15, 0, 1, 3, 4, 5, 6, 7, 8, 11, 12, 13, 14], [15]), ([16, 8, 14, 0, 1, 3, 4, 5, 6, 7, 8, 11, 12, 13, 14], [8, 16]), ([2, 0, 1, 2, 3, 4, 5, 6, 7, 8, 9, 10, 11, 12, 13, 14, 15, 16, 17], [2]), ([18, 0, 1, 2, 3, 4, 5, 6, 7, 8, 9, 10, 11, 12, 13, 14, 15, 16, 17], [18]), ([19, 11, 17, 0, 1, 2, 3, 4, 5, 6, 7, 8, 9, 10, 11, 12, 13, 14, 15, 16, 17], [11, 19])])
def entR3.B : List Nat := [0, 0, 0, 0, 8, 24, 0, 64, 248, 0, 512, 2040, 4089, 8185, 16377, 32763, 65531, 131067, 262143, 524287, 1048575]
theorem entR3.tab : rtab .any (opsOf Try.f94 3) = entR3.T := by kernel_rfl
theorem entR3.bits : waitsOk entR3.T.2 entR3.B = true := by kernel_rfl
def entR10.T : Bool × List (List Nat × List Nat) := (true, [([], []), ([], []), ([], []), ([], []), ([3], [3]), ([4], [4]), ([], []), ([6], [6]), ([7, 5], [7]), ([], []), ([9], [9]), ([10, 8], [10]), ([0, 0, 3, 4, 5, 8, 11], [0]), ([12, 0, 3, 4, 5, 8, 11], [12]), ([13, 5, 11, 0, 3, 4, 5, 8, 11], [5, 13]), ([1, 0, 1, 3, 4, 5, 6, 7, 8, 11, 12, 13, 14], [1]), ([15, 0, 1, 3, 4, 5, 6, 7, 8, 11, 12, 13, 14], [15]), ([16, 8, 14, 0, 1, 3, 4, 5, 6, 7, 8, 11, 12, 13, 14], [8, 16]), ([2, 0, 1, 2, 3, 4, 5, 6, 7, 8, 9, 10, 11, 12, 13, 14, 15, 16, 17], [2]), ([18, 0, 1, 2, 3, 4, 5, 6, 7, 8, 9, 10, 11, 12, 13, 14, 15, 16, 17], [18]), ([19, 11, 17, 0, 1, 2, 3, 4, 5, 6, 7, 8, 9, 10, 11, 12, 13, 14, 15, 16, 17], [11, 19])])
def entR10.B : List Nat := [0, 0, 0, 0, 8, 24, 0, 64, 248, 0, 512, 2040, 4089, 8185, 16377, 32763, 65531, 131067, 262143, 524287, 1048575]
theorem entR10.tab : rtab .any (opsOf Try.f94 10) = entR10.T := by kernel_rfl
theorem entR10.bits : waitsOk entR10.T.2 entR10.B = true := by kernel_rfl
set_option maxHeartbeats 16000000 in
theorem sent_is {w0 w : World} {P c p : Nat} {A : Option Addr} {b : List Int} (hC : Kd.C (Kd.int .u8) w0 A b.length b) (hc : b.length ≤ c) (hB : areBytesN b = true) (hb : Below w0.heap.size w0 w) (hP : w0.heap.size ≤ P) (k : SpotAt w P A c b.length p) (hp : p ≤ b.length) :
    Calls Try.prog 94 #[.agg #[.pointer (some ⟨P, 0, none⟩)]] w (RdP w P A c b (EntR w.heap.size) (rent (b.drop p))) := by
  have hPl := k.lt
  obtain ⟨w2, hw2⟩ : ∃ w2, w2 = (w.alloc (.cells #[.pointer (some ⟨P, 0, none⟩)] 140)).alloc (.cells #[.int .i64 0, .int .i64 0, .int .i64 0, .int .i64 0, .int .i64 0, .int .i64 0, .int .i64 0, .int .i64 0, .slice none 0 0, .int .i64 0] 26) := ⟨_, rfl⟩
  have hb2 : Below w.heap.size w w2 := by rw [hw2]; exact ((Below.refl _ _).alloc (Nat.le_refl _) _).alloc (by simp) _
  have hE2 : EnS w w2 P A c b.length p 0 0 0 0 0 0 0 0 (.slice none 0 0) 0 := by
    refine ⟨k.below hb2 hPl, ?_, ?_, grown_of_below hb2 _⟩
    · rw [hw2]; exact (Below.heap_alloc _ _ _ (by simp)).trans (World.alloc_heap_new w _)
    · rw [hw2]
      have := World.alloc_heap_new (w.alloc (.cells #[.pointer (some ⟨P, 0, none⟩)] 140)) (.cells #[.int .i64 0, .int .i64 0, .int .i64 0, .int .i64 0, .int .i64 0, .int .i64 0, .int .i64 0, .int .i64 0, .slice none 0 0, .int .i64 0] 26)
      rwa [World.size_alloc] at this
  have HG0 := Lib.hid (fun (W : World) (hg : w.grownBy W (some P)) => Kd.C_below hC (below_of_grown hb hg hP))
  have HBB := Lib.hid hB
  have HC := Lib.hid hC
  have HB0 := Lib.hid hb
  obtain ⟨X, hX⟩ : ∃ X, rent (b.drop p) = X := ⟨_, rfl⟩
  rw [hX]
  unfold rent most at hX
  have HX0 := Lib.hid hX.symm
  have HE2 := Lib.hid (hE2.drew hPl)
  have HW2 := Lib.hid hw2
  clear hC hB hb k hX hb2 hE2
  go_enter Try.func94, Try.ntmps94
  go_upto_region 1 with (fail)
  rw [← HW2.out]
  clear hw2
  refine start_ (n := 10) (S := fun w' => w'.cell? ⟨w.heap.size, 0, none⟩ = some (.pointer (some ⟨P, 0, none⟩))) (ds := []) #[false, false, false, false, false, false, false, false, false, false] (by kernel_rfl) rfl rfl HE2.out.ptr.c0 (fun hHeld => ?_); refine with_tabW entR1.tab entR1.bits (fun HT_ HW_ => ?_)
  refine pure_ (i := 0) (N := (some 4)) (v := ?_) (a' := ?_) #[true, false, false, false, false, false, false, false, false, false] rfl rfl (any_of HT_.out (by kernel_rfl)) (fun _ _ _ h => h) (Or.inl ⟨by rfl, ?_⟩) ?_ ?_
  rotate_left
  · intro w'
    go_simp
    with_reducible rfl
  rotate_left
  · simp only [Act.put, List.setIfInBounds_toArray, List.set_cons_zero, List.set_cons_succ, i64_w, i32_w]
    rfl
  refine pure_ (i := 3) (N := (some 7)) (v := ?_) (a' := ?_) #[true, false, false, true, false, false, false, false, false, false] rfl rfl (any_of HT_.out (by kernel_rfl)) (fun _ _ _ h => h) (Or.inl ⟨by rfl, ?_⟩) ?_ ?_
  rotate_left
  · intro w'
    go_simp
    with_reducible rfl
  rotate_left
  · simp only [Act.put, List.setIfInBounds_toArray, List.set_cons_zero, List.set_cons_succ, i64_w, i32_w]
    rfl
  refine take_ (i := 1) (N := (some 5)) (v := ?_) (a' := ?_) #[true, true, false, true, false, false, false, false, false, false] rfl rfl (take_ofW HT_.out HW_.out (by kernel_rfl)) (fun _ _ _ h => h) (Or.inl ⟨by rfl, ?_⟩) hHeld ?_ ?_
  rotate_left
  · rintro w' s0
    go_simp
    with_reducible rfl
  rotate_left
  · simp only [Act.put, List.setIfInBounds_toArray, List.set_cons_zero, List.set_cons_succ, i64_w, i32_w]
    rfl
  refine take_ (i := 4) (N := (some 8)) (v := ?_) (a' := ?_) #[true, true, false, true, true, false, false, false, false, false] rfl rfl (take_ofW HT_.out HW_.out (by kernel_rfl)) (fun _ _ _ h => h) (Or.inl ⟨by rfl, ?_⟩) hHeld ?_ ?_
  rotate_left
  · rintro w' s0
    go_simp
    with_reducible rfl
  rotate_left
  · simp only [Act.put, List.setIfInBounds_toArray, List.set_cons_zero, List.set_cons_succ, i64_w, i32_w]
    rfl
  refine one_ (i := 2) (N := (some 6)) #[true, true, true, true, true, false, false, false, false, false] rfl rfl (one_of HT_.out (by kernel_rfl)) (by decide) (fun K hK => ?_)
  have hX := HX0.out
  rcases hres : rnum 2147483647 (b.drop p) with f | ⟨who, r⟩
  · rw [hres, bnd_err] at hX
    refine goesP_ Try.func131 (by kernel_rfl) rfl #[.pointer (some ⟨P, 0, none⟩), .int .i64 2147483647] (by rfl) rfl rfl (by (try simp only [List.map_toArray, List.map_cons, List.map_nil]); first | done | rfl) ?_
    refine (snum_err HE2.out.spot (HG0.out _ HE2.out.grown) hc HBB.out hp 2147483647 (by decide) (by decide) f hres).mono ?_
    rintro e w' ⟨rfl, hg⟩
    exact .inr ⟨_, rfl, And.intro rfl (RdP.err hX (HE2.out.grown.trans hg))⟩
  obtain ⟨q1, hq1, rfl, hql, hn0who, hn1who⟩ := rnum_rest HBB.out hp hres
  rw [hres, bnd_ok] at hX
  have HX1 := Lib.hid hX
  refine goesP_ Try.func131 (by kernel_rfl) rfl #[.pointer (some ⟨P, 0, none⟩), .int .i64 2147483647] (by rfl) rfl rfl (by (try simp only [List.map_toArray, List.map_cons, List.map_nil]); first | done | rfl) ?_
  refine (snum_ok HE2.out.spot (HG0.out _ HE2.out.grown) hc HBB.out hp 2147483647 (by decide) (by decide) who _ hres).mono ?_
  rintro e v3 ⟨rfl, hk, hg⟩
  rw [hql] at hk
  have HE3 := Lib.hid (HE2.out.num hPl hk hg)
  clear hk hg hres hX hql HX0 HE2
  refine .inl ⟨_, rfl, ?_⟩
  refine hK.out _ _ HE3.out.ptr.c0 (fun hHeld => ?_)
  clear hK K
  refine norm_ (a' := ?_) ?_ ?_
  rotate_left
  · show Act.put _ (some 6) _ = _
    simp only [Act.put, List.setIfInBounds_toArray, List.set_cons_zero, List.set_cons_succ, i64_w, i32_w]
    rfl
  refine one_ (i := 5) (N := (some 9)) #[true, true, true, true, true, true, false, false, false, false] rfl rfl (one_of HT_.out (by kernel_rfl)) (by decide) (fun K hK => ?_)
  have hX := HX1.out
  rcases hres : rnum 2147483647 (b.drop q1) with f | ⟨seq, r⟩
  · rw [hres, bnd_err] at hX
    refine goesP_ Try.func131 (by kernel_rfl) rfl #[.pointer (some ⟨P, 0, none⟩), .int .i64 2147483647] (by rfl) rfl rfl (by (try simp only [List.map_toArray, List.map_cons, List.map_nil]); first | done | rfl) ?_
    refine (snum_err HE3.out.spot (HG0.out _ HE3.out.grown) hc HBB.out hq1 2147483647 (by decide) (by decide) f hres).mono ?_
    rintro e w' ⟨rfl, hg⟩
    exact .inr ⟨_, rfl, And.intro rfl (RdP.err hX (HE3.out.grown.trans hg))⟩
  obtain ⟨q2, hq2, rfl, hql, hn0seq, hn1seq⟩ := rnum_rest HBB.out hq1 hres
  rw [hres, bnd_ok] at hX
  have HX2 := Lib.hid hX
  refine goesP_ Try.func131 (by kernel_rfl) rfl #[.pointer (some ⟨P, 0, none⟩), .int .i64 2147483647] (by rfl) rfl rfl (by (try simp only [List.map_toArray, List.map_cons, List.map_nil]); first | done | rfl) ?_
  refine (snum_ok HE3.out.spot (HG0.out _ HE3.out.grown) hc HBB.out hq1 2147483647 (by decide) (by decide) seq _ hres).mono ?_
  rintro e v4 ⟨rfl, hk, hg⟩
  rw [hql] at hk
  have HE4 := Lib.hid (HE3.out.num hPl hk hg)
  clear hk hg hres hX hql HX1 HE3
  refine .inl ⟨_, rfl, ?_⟩
  refine hK.out _ _ HE4.out.ptr.c0 (fun hHeld => ?_)
  clear hK K
  refine norm_ (a' := ?_) ?_ ?_
  rotate_left
  · show Act.put _ (some 9) _ = _
    simp only [Act.put, List.setIfInBounds_toArray, List.set_cons_zero, List.set_cons_succ, i64_w, i32_w]
    rfl
  refine pure_ (i := 6) (N := (some 10)) (v := ?_) (a' := ?_) #[true, true, true, true, true, true, true, false, false, false] rfl rfl (any_of HT_.out (by kernel_rfl)) (fun _ _ _ h => h) (Or.inl ⟨by rfl, ?_⟩) ?_ ?_
  rotate_left
  · intro w'
    go_simp
    with_reducible rfl
  rotate_left
  · simp only [Act.put, List.setIfInBounds_toArray, List.set_cons_zero, List.set_cons_succ, i64_w, i32_w]
    rfl
  refine one_ (i := 7) (N := none) #[true, true, true, true, true, true, true, true, false, false] rfl rfl (one_of HT_.out (by kernel_rfl)) (by decide) (fun K hK => ?_)
  have hcc := HE4.out.c0
  have hff := HE4.out.f 0
  refine skip_ (w1 := (v4.setCell ⟨w.heap.size + 1, 0, none⟩ (.int .i64 who))) (by rfl) rfl ?_ ?_
  · go_simp
    try rfl
  have HE5 : Hid (EnS w (v4.setCell ⟨w.heap.size + 1, 0, none⟩ (.int .i64 who)) P A c b.length q2 who 0 0 0 0 0 0 0 (.slice none 0 0) 0) := Lib.hid (HE4.out.put hPl 0 (.int .i64 who) rfl)
  clear hcc hff HE4
  refine hK.out _ _ HE5.out.ptr.c0 (fun hHeld => ?_)
  clear hK K
  refine pure_ (i := 8) (N := (some 11)) (v := ?_) (a' := ?_) #[true, true, true, true, true, true, true, true, true, false] rfl rfl (any_of HT_.out (by kernel_rfl)) (fun _ _ _ h => h) (Or.inl ⟨by rfl, ?_⟩) ?_ ?_
  rotate_left
  · intro w'
    go_simp
    with_reducible rfl
  rotate_left
  · simp only [Act.put, List.setIfInBounds_toArray, List.set_cons_zero, List.set_cons_succ, i64_w, i32_w]
    rfl
  refine one_ (i := 9) (N := none) #[true, true, true, true, true, true, true, true, true, true] rfl rfl (one_of HT_.out (by kernel_rfl)) (by decide) (fun K hK => ?_)
  have hcc := HE5.out.c1
  have hff := HE5.out.f 1
  refine skip_ (w1 := ((v4.setCell ⟨w.heap.size + 1, 0, none⟩ (.int .i64 who)).setCell ⟨w.heap.size + 1, 1, none⟩ (.int .i64 seq))) (by rfl) rfl ?_ ?_
  · go_simp
    try rfl
  have HE6 : Hid (EnS w ((v4.setCell ⟨w.heap.size + 1, 0, none⟩ (.int .i64 who)).setCell ⟨w.heap.size + 1, 1, none⟩ (.int .i64 seq)) P A c b.length q2 who seq 0 0 0 0 0 0 (.slice none 0 0) 0) := Lib.hid (HE5.out.put hPl 1 (.int .i64 seq) rfl)
  clear hcc hff HE5
  refine hK.out _ _ HE6.out.ptr.c0 (fun hHeld => ?_)
  clear hK K
  refine done_ (done_of HT_.out (by kernel_rfl)) ?_
  go_upto_region 3 with (fail)
  have HE7 := Lib.hid (HE6.out.drew hPl)
  refine start_ (n := 21) (S := fun w' => w'.cell? ⟨w.heap.size, 0, none⟩ = some (.pointer (some ⟨P, 0, none⟩))) (ds := []) #[false, false, false, false, false, false, false, false, false, false, false, false, false, false, false, false, false, false, false, false, false] (by kernel_rfl) rfl rfl HE7.out.ptr.c0 (fun hHeld => ?_); refine with_tabW entR3.tab entR3.bits (fun HT_ HW_ => ?_)
  refine pure_ (i := 0) (N := (some 13)) (v := ?_) (a' := ?_) #[true, false, false, false, false, false, false, false, false, false, false, false, false, false, false, false, false, false, false, false, false] rfl rfl (any_of HT_.out (by kernel_rfl)) (fun _ _ _ h => h) (Or.inl ⟨by rfl, ?_⟩) ?_ ?_
  rotate_left
  · intro w'
    go_simp
    with_reducible rfl
  rotate_left
  · simp only [Act.put, List.setIfInBounds_toArray, List.set_cons_zero, List.set_cons_succ, i64_w, i32_w]
    rfl
  refine pure_ (i := 1) (N := (some 14)) (v := ?_) (a' := ?_) #[true, true, false, false, false, false, false, false, false, false, false, false, false, false, false, false, false, false, false, false, false] rfl rfl (any_of HT_.out (by kernel_rfl)) (fun _ _ _ h => h) (Or.inl ⟨by rfl, ?_⟩) ?_ ?_
  rotate_left
  · intro w'
    go_simp
    with_reducible rfl
  rotate_left
  · simp only [Act.put, List.setIfInBounds_toArray, List.set_cons_zero, List.set_cons_succ, i64_w, i32_w]
    rfl
  refine pure_ (i := 2) (N := (some 15)) (v := ?_) (a' := ?_) #[true, true, true, false, false, false, false, false, false, false, false, false, false, false, false, false, false, false, false, false, false] rfl rfl (any_of HT_.out (by kernel_rfl)) (fun _ _ _ h => h) (Or.inl ⟨by rfl, ?_⟩) ?_ ?_
  rotate_left
  · intro w'
    go_simp
    with_reducible rfl
  rotate_left
  · simp only [Act.put, List.setIfInBounds_toArray, List.set_cons_zero, List.set_cons_succ, i64_w, i32_w]
    rfl
  refine pure_ (i := 3) (N := (some 16)) (v := ?_) (a' := ?_) #[true, true, true, true, false, false, false, false, false, false, false, false, false, false, false, false, false, false, false, false, false] rfl rfl (any_of HT_.out (by kernel_rfl)) (fun _ _ _ h => h) (Or.inl ⟨by rfl, ?_⟩) ?_ ?_
  rotate_left
  · intro w'
    go_simp
    with_reducible rfl
  rotate_left
  · simp only [Act.put, List.setIfInBounds_toArray, List.set_cons_zero, List.set_cons_succ, i64_w, i32_w]
    rfl
  refine pure_ (i := 6) (N := (some 19)) (v := ?_) (a' := ?_) #[true, true, true, true, false, false, true, false, false, false, false, false, false, false, false, false, false, false, false, false, false] rfl rfl (any_of HT_.out (by kernel_rfl)) (fun _ _ _ h => h) (Or.inl ⟨by rfl, ?_⟩) ?_ ?_
  rotate_left
  · intro w'
    go_simp
    with_reducible rfl
  rotate_left
  · simp only [Act.put, List.setIfInBounds_toArray, List.set_cons_zero, List.set_cons_succ, i64_w, i32_w]
    rfl
  refine pure_ (i := 9) (N := (some 22)) (v := ?_) (a' := ?_) #[true, true, true, true, false, false, true, false, false, true, false, false, false, false, false, false, false, false, false, false, false] rfl rfl (any_of HT_.out (by kernel_rfl)) (fun _ _ _ h => h) (Or.inl ⟨by rfl, ?_⟩) ?_ ?_
  rotate_left
  · intro w'
    go_simp
    with_reducible rfl
  rotate_left
  · simp only [Act.put, List.setIfInBounds_toArray, List.set_cons_zero, List.set_cons_succ, i64_w, i32_w]
    rfl
  refine take_ (i := 4) (N := (some 17)) (v := ?_) (a' := ?_) #[true, true, true, true, true, false, true, false, false, true, false, false, false, false, false, false, false, false, false, false, false] rfl rfl (take_ofW HT_.out HW_.out (by kernel_rfl)) (fun _ _ _ h => h) (Or.inl ⟨by rfl, ?_⟩) hHeld ?_ ?_
  rotate_left
  · rintro w' s0
    go_simp
    with_reducible rfl
  rotate_left
  · simp only [Act.put, List.setIfInBounds_toArray, List.set_cons_zero, List.set_cons_succ, i64_w, i32_w]
    rfl
  refine take_ (i := 7) (N := (some 20)) (v := ?_) (a' := ?_) #[true, true, true, true, true, false, true, true, false, true, false, false, false, false, false, false, false, false, false, false, false] rfl rfl (take_ofW HT_.out HW_.out (by kernel_rfl)) (fun _ _ _ h => h) (Or.inl ⟨by rfl, ?_⟩) hHeld ?_ ?_
  rotate_left
  · rintro w' s0
    go_simp
    with_reducible rfl
  rotate_left
  · simp only [Act.put, List.setIfInBounds_toArray, List.set_cons_zero, List.set_cons_succ, i64_w, i32_w]
    rfl
  refine take_ (i := 10) (N := (some 23)) (v := ?_) (a' := ?_) #[true, true, true, true, true, false, true, true, false, true, true, false, false, false, false, false, false, false, false, false, false] rfl rfl (take_ofW HT_.out HW_.out (by kernel_rfl)) (fun _ _ _ h => h) (Or.inl ⟨by rfl, ?_⟩) hHeld ?_ ?_
  rotate_left
  · rintro w' s0
    go_simp
    with_reducible rfl
  rotate_left
  · simp only [Act.put, List.setIfInBounds_toArray, List.set_cons_zero, List.set_cons_succ, i64_w, i32_w]
    rfl
  refine one_ (i := 5) (N := (some 18)) #[true, true, true, true, true, true, true, true, false, true, true, false, false, false, false, false, false, false, false, false, false] rfl rfl (one_of HT_.out (by kernel_rfl)) (by decide) (fun K hK => ?_)
  have hX := HX2.out
  rcases hres : rnum 3 (b.drop q2) with f | ⟨kk, r⟩
  · rw [hres, bnd_err] at hX
    refine goesP_ Try.func131 (by kernel_rfl) rfl #[.pointer (some ⟨P, 0, none⟩), .int .i64 3] (by rfl) rfl rfl (by (try simp only [List.map_toArray, List.map_cons, List.map_nil]); first | done | rfl) ?_
    refine (snum_err HE7.out.spot (HG0.out _ HE7.out.grown) hc HBB.out hq2 3 (by decide) (by decide) f hres).mono ?_
    rintro e w' ⟨rfl, hg⟩
    exact .inr ⟨_, rfl, And.intro rfl (RdP.err hX (HE7.out.grown.trans hg))⟩
  obtain ⟨q3, hq3, rfl, hql, hn0kk, hn1kk⟩ := rnum_rest HBB.out hq2 hres
  rw [hres, bnd_ok] at hX
  have HX3 := Lib.hid hX
  refine goesP_ Try.func131 (by kernel_rfl) rfl #[.pointer (some ⟨P, 0, none⟩), .int .i64 3] (by rfl) rfl rfl (by (try simp only [List.map_toArray, List.map_cons, List.map_nil]); first | done | rfl) ?_
  refine (snum_ok HE7.out.spot (HG0.out _ HE7.out.grown) hc HBB.out hq2 3 (by decide) (by decide) kk _ hres).mono ?_
  rintro e v8 ⟨rfl, hk, hg⟩
  rw [hql] at hk
  have HE8 := Lib.hid (HE7.out.num hPl hk hg)
  clear hk hg hres hX hql HX2 HE7
  refine .inl ⟨_, rfl, ?_⟩
  refine hK.out _ _ HE8.out.ptr.c0 (fun hHeld => ?_)
  clear hK K
  refine norm_ (a' := ?_) ?_ ?_
  rotate_left
  · show Act.put _ (some 18) _ = _
    simp only [Act.put, List.setIfInBounds_toArray, List.set_cons_zero, List.set_cons_succ, i64_w, i32_w]
    rfl
  refine one_ (i := 8) (N := (some 21)) #[true, true, true, true, true, true, true, true, true, true, true, false, false, false, false, false, false, false, false, false, false] rfl rfl (one_of HT_.out (by kernel_rfl)) (by decide) (fun K hK => ?_)
  have hX := HX3.out
  rcases hres : rnum 2147483647 (b.drop q3) with f | ⟨fm, r⟩
  · rw [hres, bnd_err] at hX
    refine goesP_ Try.func131 (by kernel_rfl) rfl #[.pointer (some ⟨P, 0, none⟩), .int .i64 2147483647] (by rfl) rfl rfl (by (try simp only [List.map_toArray, List.map_cons, List.map_nil]); first | done | rfl) ?_
    refine (snum_err HE8.out.spot (HG0.out _ HE8.out.grown) hc HBB.out hq3 2147483647 (by decide) (by decide) f hres).mono ?_
    rintro e w' ⟨rfl, hg⟩
    exact .inr ⟨_, rfl, And.intro rfl (RdP.err hX (HE8.out.grown.trans hg))⟩
  obtain ⟨q4, hq4, rfl, hql, hn0fm, hn1fm⟩ := rnum_rest HBB.out hq3 hres
  rw [hres, bnd_ok] at hX
  have HX4 := Lib.hid hX
  refine goesP_ Try.func131 (by kernel_rfl) rfl #[.pointer (some ⟨P, 0, none⟩), .int .i64 2147483647] (by rfl) rfl rfl (by (try simp only [List.map_toArray, List.map_cons, List.map_nil]); first | done | rfl) ?_
  refine (snum_ok HE8.out.spot (HG0.out _ HE8.out.grown) hc HBB.out hq3 2147483647 (by decide) (by decide) fm _ hres).mono ?_
  rintro e v9 ⟨rfl, hk, hg⟩
  rw [hql] at hk
  have HE9 := Lib.hid (HE8.out.num hPl hk hg)
  clear hk hg hres hX hql HX3 HE8
  refine .inl ⟨_, rfl, ?_⟩
  refine hK.out _ _ HE9.out.ptr.c0 (fun hHeld => ?_)
  clear hK K
  refine norm_ (a' := ?_) ?_ ?_
  rotate_left
  · show Act.put _ (some 21) _ = _
    simp only [Act.put, List.setIfInBounds_toArray, List.set_cons_zero, List.set_cons_succ, i64_w, i32_w]
    rfl
  refine one_ (i := 11) (N := (some 24)) #[true, true, true, true, true, true, true, true, true, true, true, true, false, false, false, false, false, false, false, false, false] rfl rfl (one_of HT_.out (by kernel_rfl)) (by decide) (fun K hK => ?_)
  have hX := HX4.out
  rcases hres : rnum 2147483647 (b.drop q4) with f | ⟨tt, r⟩
  · rw [hres, bnd_err] at hX
    refine goesP_ Try.func131 (by kernel_rfl) rfl #[.pointer (some ⟨P, 0, none⟩), .int .i64 2147483647] (by rfl) rfl rfl (by (try simp only [List.map_toArray, List.map_cons, List.map_nil]); first | done | rfl) ?_
    refine (snum_err HE9.out.spot (HG0.out _ HE9.out.grown) hc HBB.out hq4 2147483647 (by decide) (by decide) f hres).mono ?_
    rintro e w' ⟨rfl, hg⟩
    exact .inr ⟨_, rfl, And.intro rfl (RdP.err hX (HE9.out.grown.trans hg))⟩
  obtain ⟨q5, hq5, rfl, hql, hn0tt, hn1tt⟩ := rnum_rest HBB.out hq4 hres
  rw [hres, bnd_ok] at hX
  have HX5 := Lib.hid hX
  refine goesP_ Try.func131 (by kernel_rfl) rfl #[.pointer (some ⟨P, 0, none⟩), .int .i64 2147483647] (by rfl) rfl rfl (by (try simp only [List.map_toArray, List.map_cons, List.map_nil]); first | done | rfl) ?_
  refine (snum_ok HE9.out.spot (HG0.out _ HE9.out.grown) hc HBB.out hq4 2147483647 (by decide) (by decide) tt _ hres).mono ?_
  rintro e v10 ⟨rfl, hk, hg⟩
  rw [hql] at hk
  have HE10 := Lib.hid (HE9.out.num hPl hk hg)
  clear hk hg hres hX hql HX4 HE9
  refine .inl ⟨_, rfl, ?_⟩
  refine hK.out _ _ HE10.out.ptr.c0 (fun hHeld => ?_)
  clear hK K
  refine norm_ (a' := ?_) ?_ ?_
  rotate_left
  · show Act.put _ (some 24) _ = _
    simp only [Act.put, List.setIfInBounds_toArray, List.set_cons_zero, List.set_cons_succ, i64_w, i32_w]
    rfl
  refine pure_ (i := 12) (N := (some 25)) (v := ?_) (a' := ?_) #[true, true, true, true, true, true, true, true, true, true, true, true, true, false, false, false, false, false, false, false, false] rfl rfl (any_of HT_.out (by kernel_rfl)) (fun _ _ _ h => h) (Or.inl ⟨by rfl, ?_⟩) ?_ ?_
  rotate_left
  · intro w'
    go_simp
    with_reducible rfl
  rotate_left
  · simp only [Act.put, List.setIfInBounds_toArray, List.set_cons_zero, List.set_cons_succ, i64_w, i32_w]
    rfl
  refine pure_ (i := 13) (N := (some 26)) (v := ?_) (a' := ?_) #[true, true, true, true, true, true, true, true, true, true, true, true, true, true, false, false, false, false, false, false, false] rfl rfl (any_of HT_.out (by kernel_rfl)) (fun _ _ _ h => h) (Or.inl ⟨by rfl, ?_⟩) ?_ ?_
  rotate_left
  · intro w'
    go_simp
    with_reducible rfl
  rotate_left
  · simp only [Act.put, List.setIfInBounds_toArray, List.set_cons_zero, List.set_cons_succ, i64_w, i32_w]
    rfl
  refine one_ (i := 14) (N := none) #[true, true, true, true, true, true, true, true, true, true, true, true, true, true, true, false, false, false, false, false, false] rfl rfl (one_of HT_.out (by kernel_rfl)) (by decide) (fun K hK => ?_)
  have hcc := HE10.out.c2
  have hff := HE10.out.f 2
  refine skip_ (w1 := (v10.setCell ⟨w.heap.size + 1, 2, none⟩ (.int .i64 kk))) (by rfl) rfl ?_ ?_
  · go_simp
    try rfl
  have HE11 : Hid (EnS w (v10.setCell ⟨w.heap.size + 1, 2, none⟩ (.int .i64 kk)) P A c b.length q5 who seq kk 0 0 0 0 0 (.slice none 0 0) 0) := Lib.hid (HE10.out.put hPl 2 (.int .i64 kk) rfl)
  clear hcc hff HE10
  refine hK.out _ _ HE11.out.ptr.c0 (fun hHeld => ?_)
  clear hK K
  refine pure_ (i := 15) (N := (some 27)) (v := ?_) (a' := ?_) #[true, true, true, true, true, true, true, true, true, true, true, true, true, true, true, true, false, false, false, false, false] rfl rfl (any_of HT_.out (by kernel_rfl)) (fun _ _ _ h => h) (Or.inl ⟨by rfl, ?_⟩) ?_ ?_
  rotate_left
  · intro w'
    go_simp
    with_reducible rfl
  rotate_left
  · simp only [Act.put, List.setIfInBounds_toArray, List.set_cons_zero, List.set_cons_succ, i64_w, i32_w]
    rfl
  refine pure_ (i := 16) (N := (some 28)) (v := ?_) (a' := ?_) #[true, true, true, true, true, true, true, true, true, true, true, true, true, true, true, true, true, false, false, false, false] rfl rfl (any_of HT_.out (by kernel_rfl)) (fun _ _ _ h => h) (Or.inl ⟨by rfl, ?_⟩) ?_ ?_
  rotate_left
  · intro w'
    go_simp
    with_reducible rfl
  rotate_left
  · simp only [Act.put, List.setIfInBounds_toArray, List.set_cons_zero, List.set_cons_succ, i64_w, i32_w]
    rfl
  refine one_ (i := 17) (N := none) #[true, true, true, true, true, true, true, true, true, true, true, true, true, true, true, true, true, true, false, false, false] rfl rfl (one_of HT_.out (by kernel_rfl)) (by decide) (fun K hK => ?_)
  have hcc := HE11.out.c3
  have hff := HE11.out.f 3
  refine skip_ (w1 := ((v10.setCell ⟨w.heap.size + 1, 2, none⟩ (.int .i64 kk)).setCell ⟨w.heap.size + 1, 3, none⟩ (.int .i64 fm))) (by rfl) rfl ?_ ?_
  · go_simp
    try rfl
  have HE12 : Hid (EnS w ((v10.setCell ⟨w.heap.size + 1, 2, none⟩ (.int .i64 kk)).setCell ⟨w.heap.size + 1, 3, none⟩ (.int .i64 fm)) P A c b.length q5 who seq kk fm 0 0 0 0 (.slice none 0 0) 0) := Lib.hid (HE11.out.put hPl 3 (.int .i64 fm) rfl)
  clear hcc hff HE11
  refine hK.out _ _ HE12.out.ptr.c0 (fun hHeld => ?_)
  clear hK K
  refine pure_ (i := 18) (N := (some 29)) (v := ?_) (a' := ?_) #[true, true, true, true, true, true, true, true, true, true, true, true, true, true, true, true, true, true, true, false, false] rfl rfl (any_of HT_.out (by kernel_rfl)) (fun _ _ _ h => h) (Or.inl ⟨by rfl, ?_⟩) ?_ ?_
  rotate_left
  · intro w'
    go_simp
    with_reducible rfl
  rotate_left
  · simp only [Act.put, List.setIfInBounds_toArray, List.set_cons_zero, List.set_cons_succ, i64_w, i32_w]
    rfl
  refine pure_ (i := 19) (N := (some 30)) (v := ?_) (a' := ?_) #[true, true, true, true, true, true, true, true, true, true, true, true, true, true, true, true, true, true, true, true, false] rfl rfl (any_of HT_.out (by kernel_rfl)) (fun _ _ _ h => h) (Or.inl ⟨by rfl, ?_⟩) ?_ ?_
  rotate_left
  · intro w'
    go_simp
    with_reducible rfl
  rotate_left
  · simp only [Act.put, List.setIfInBounds_toArray, List.set_cons_zero, List.set_cons_succ, i64_w, i32_w]
    rfl
  refine one_ (i := 20) (N := none) #[true, true, true, true, true, true, true, true, true, true, true, true, true, true, true, true, true, true, true, true, true] rfl rfl (one_of HT_.out (by kernel_rfl)) (by decide) (fun K hK => ?_)
  have hcc := HE12.out.c4
  have hff := HE12.out.f 4
  refine skip_ (w1 := (((v10.setCell ⟨w.heap.size + 1, 2, none⟩ (.int .i64 kk)).setCell ⟨w.heap.size + 1, 3, none⟩ (.int .i64 fm)).setCell ⟨w.heap.size + 1, 4, none⟩ (.int .i64 tt))) (by rfl) rfl ?_ ?_
  · go_simp
    try rfl
  have HE13 : Hid (EnS w (((v10.setCell ⟨w.heap.size + 1, 2, none⟩ (.int .i64 kk)).setCell ⟨w.heap.size + 1, 3, none⟩ (.int .i64 fm)).setCell ⟨w.heap.size + 1, 4, none⟩ (.int .i64 tt)) P A c b.length q5 who seq kk fm tt 0 0 0 (.slice none 0 0) 0) := Lib.hid (HE12.out.put hPl 4 (.int .i64 tt) rfl)
  clear hcc hff HE12
  refine hK.out _ _ HE13.out.ptr.c0 (fun hHeld => ?_)
  clear hK K
  refine done_ (done_of HT_.out (by kernel_rfl)) ?_
  have hkk : kk = 2 ∨ kk = 3 ∨ kk = 1 ∨ kk = 0 := by omega
  rcases hkk with rfl | rfl | rfl | rfl
  · have hX := HX5.out
    rw [if_pos (by decide)] at hX
    have c2 := HE13.out.c2
    have r0 := HE13.out.ptr.c0
    rcases hres : rnum 2147483647 (b.drop q5) with f | ⟨mk, r⟩
    · rw [hres, bnd_err] at hX
      have HN := Lib.hid (snum_err HE13.out.spot (HG0.out _ HE13.out.grown) hc HBB.out hq5 2147483647 (by decide) (by decide) f hres)
      have HX := Lib.hid hX
      clear hX hres HX5
      go_wp2_with (go_at_call 131; refine HN.out.mono ?_; rintro e w7 ⟨rfl, hg⟩; have HG7 := Lib.hid (HE13.out.grown.trans hg); clear hg)
      exact ⟨rfl, RdP.err HX.out HG7.out⟩
    · obtain ⟨q9, hq9, rfl, hql, hm0, hm1⟩ := rnum_rest HBB.out hq5 hres
      have hN := snum_ok HE13.out.spot (HG0.out _ HE13.out.grown) hc HBB.out hq5 2147483647 (by decide) (by decide) mk _ hres
      rw [hql] at hN
      rw [hres, bnd_ok] at hX
      have HN := Lib.hid hN
      have HX := Lib.hid hX
      clear hX hres HX5 hN
      go_upto_region 8 with (go_at_call 131; refine HN.out.mono ?_; rintro e w7 ⟨rfl, hk, hg⟩; have HE20 := Lib.hid (HE13.out.num hPl hk hg); have f9 := HE20.out.f 9; have c9 := HE20.out.c9; have HE21 := Lib.hid (HE20.out.put hPl 9 (.int .i64 mk) (b0 := who) (b1 := seq) (b2 := 2) (b3 := fm) (b4 := tt) (b5 := 0) (b6 := 0) (b7 := 0) (b9 := mk) (v' := .slice none 0 0) rfl); clear hk hg)
      have e0 := HE21.out.c0
      have e1 := HE21.out.c1
      have e2 := HE21.out.c2
      have e3 := HE21.out.c3
      have e4 := HE21.out.c4
      have e5 := HE21.out.c5
      have e6 := HE21.out.c6
      have e7 := HE21.out.c7
      have e8 := HE21.out.c8
      have e9 := HE21.out.c9
      obtain ⟨w8, hw8⟩ : ∃ w8, w7.setCell ⟨w.heap.size + 1, 9, none⟩ (.int .i64 mk) = w8 := ⟨_, rfl⟩
      rw [hw8] at e0 e1 e2 e3 e4 e5 e6 e7 e8 e9 HE21 ⊢
      have ff := HE21.out.f
      clear hw8 HE20 HN
      go_wp2
      have g0 := HE21.out.put hPl 0 (.int .i64 who) (b0 := who) (b1 := seq) (b2 := 2) (b3 := fm) (b4 := tt) (b5 := 0) (b6 := 0) (b7 := 0) (b9 := mk) (v' := (.slice none 0 0)) rfl
      have g1 := g0.put hPl 1 (.int .i64 seq) (b0 := who) (b1 := seq) (b2 := 2) (b3 := fm) (b4 := tt) (b5 := 0) (b6 := 0) (b7 := 0) (b9 := mk) (v' := (.slice none 0 0)) rfl
      clear g0
      have g2 := g1.put hPl 2 (.int .i64 2) (b0 := who) (b1 := seq) (b2 := 2) (b3 := fm) (b4 := tt) (b5 := 0) (b6 := 0) (b7 := 0) (b9 := mk) (v' := (.slice none 0 0)) rfl
      clear g1
      have g3 := g2.put hPl 3 (.int .i64 fm) (b0 := who) (b1 := seq) (b2 := 2) (b3 := fm) (b4 := tt) (b5 := 0) (b6 := 0) (b7 := 0) (b9 := mk) (v' := (.slice none 0 0)) rfl
      clear g2
      have g4 := g3.put hPl 4 (.int .i64 tt) (b0 := who) (b1 := seq) (b2 := 2) (b3 := fm) (b4 := tt) (b5 := 0) (b6 := 0) (b7 := 0) (b9 := mk) (v' := (.slice none 0 0)) rfl
      clear g3
      have g5 := g4.put hPl 5 (.int .i64 0) (b0 := who) (b1 := seq) (b2 := 2) (b3 := fm) (b4 := tt) (b5 := 0) (b6 := 0) (b7 := 0) (b9 := mk) (v' := (.slice none 0 0)) rfl
      clear g4
      have g6 := g5.put hPl 6 (.int .i64 0) (b0 := who) (b1 := seq) (b2 := 2) (b3 := fm) (b4 := tt) (b5 := 0) (b6 := 0) (b7 := 0) (b9 := mk) (v' := (.slice none 0 0)) rfl
      clear g5
      have g7 := g6.put hPl 7 (.int .i64 0) (b0 := who) (b1 := seq) (b2 := 2) (b3 := fm) (b4 := tt) (b5 := 0) (b6 := 0) (b7 := 0) (b9 := mk) (v' := (.slice none 0 0)) rfl
      clear g6
      have g8 := g7.put hPl 8 (.slice none 0 0) (b0 := who) (b1 := seq) (b2 := 2) (b3 := fm) (b4 := tt) (b5 := 0) (b6 := 0) (b7 := 0) (b9 := mk) (v' := (.slice none 0 0)) rfl
      clear g7
      have g9 := g8.put hPl 9 (.int .i64 mk) (b0 := who) (b1 := seq) (b2 := 2) (b3 := fm) (b4 := tt) (b5 := 0) (b6 := 0) (b7 := 0) (b9 := mk) (v' := (.slice none 0 0)) rfl
      clear g8
      have z0 := g9.c0
      have z1 := g9.c1
      have z2 := g9.c2
      have z3 := g9.c3
      have z4 := g9.c4
      have z5 := g9.c5
      have z6 := g9.c6
      have z7 := g9.c7
      have z8 := g9.c8
      have z9 := g9.c9
      refine bodyPost_ret (v := .agg #[.int .i64 who, .int .i64 seq, .int .i64 2, .int .i64 fm, .int .i64 tt, .int .i64 0, .int .i64 0, .int .i64 0, .slice none 0 0, .int .i64 mk]) (by simp [results, Try.results94, go_sem, z0, z1, z2, z3, z4, z5, z6, z7, z8, z9]) rfl ?_
      exact RdP.ok HX.out g9.grown ⟨_, rfl, Kd.R_nil _ _ _ _ _⟩ g9.spot (by rw [List.length_drop]; omega)
  · have hX := HX5.out
    rw [if_pos (by decide)] at hX
    have c2 := HE13.out.c2
    have r0 := HE13.out.ptr.c0
    rcases hres : rnum 2147483647 (b.drop q5) with f | ⟨mk, r⟩
    · rw [hres, bnd_err] at hX
      have HN := Lib.hid (snum_err HE13.out.spot (HG0.out _ HE13.out.grown) hc HBB.out hq5 2147483647 (by decide) (by decide) f hres)
      have HX := Lib.hid hX
      clear hX hres HX5
      go_wp2_with (go_at_call 131; refine HN.out.mono ?_; rintro e w7 ⟨rfl, hg⟩; have HG7 := Lib.hid (HE13.out.grown.trans hg); clear hg)
      exact ⟨rfl, RdP.err HX.out HG7.out⟩
    · obtain ⟨q9, hq9, rfl, hql, hm0, hm1⟩ := rnum_rest HBB.out hq5 hres
      have hN := snum_ok HE13.out.spot (HG0.out _ HE13.out.grown) hc HBB.out hq5 2147483647 (by decide) (by decide) mk _ hres
      rw [hql] at hN
      rw [hres, bnd_ok] at hX
      have HN := Lib.hid hN
      have HX := Lib.hid hX
      clear hX hres HX5 hN
      go_upto_region 8 with (go_at_call 131; refine HN.out.mono ?_; rintro e w7 ⟨rfl, hk, hg⟩; have HE20 := Lib.hid (HE13.out.num hPl hk hg); have f9 := HE20.out.f 9; have c9 := HE20.out.c9; have HE21 := Lib.hid (HE20.out.put hPl 9 (.int .i64 mk) (b0 := who) (b1 := seq) (b2 := 3) (b3 := fm) (b4 := tt) (b5 := 0) (b6 := 0) (b7 := 0) (b9 := mk) (v' := .slice none 0 0) rfl); clear hk hg)
      have e0 := HE21.out.c0
      have e1 := HE21.out.c1
      have e2 := HE21.out.c2
      have e3 := HE21.out.c3
      have e4 := HE21.out.c4
      have e5 := HE21.out.c5
      have e6 := HE21.out.c6
      have e7 := HE21.out.c7
      have e8 := HE21.out.c8
      have e9 := HE21.out.c9
      obtain ⟨w8, hw8⟩ : ∃ w8, w7.setCell ⟨w.heap.size + 1, 9, none⟩ (.int .i64 mk) = w8 := ⟨_, rfl⟩
      rw [hw8] at e0 e1 e2 e3 e4 e5 e6 e7 e8 e9 HE21 ⊢
      have ff := HE21.out.f
      clear hw8 HE20 HN
      go_wp2
      have g0 := HE21.out.put hPl 0 (.int .i64 who) (b0 := who) (b1 := seq) (b2 := 3) (b3 := fm) (b4 := tt) (b5 := 0) (b6 := 0) (b7 := 0) (b9 := mk) (v' := (.slice none 0 0)) rfl
      have g1 := g0.put hPl 1 (.int .i64 seq) (b0 := who) (b1 := seq) (b2 := 3) (b3 := fm) (b4 := tt) (b5 := 0) (b6 := 0) (b7 := 0) (b9 := mk) (v' := (.slice none 0 0)) rfl
      clear g0
      have g2 := g1.put hPl 2 (.int .i64 3) (b0 := who) (b1 := seq) (b2 := 3) (b3 := fm) (b4 := tt) (b5 := 0) (b6 := 0) (b7 := 0) (b9 := mk) (v' := (.slice none 0 0)) rfl
      clear g1
      have g3 := g2.put hPl 3 (.int .i64 fm) (b0 := who) (b1 := seq) (b2 := 3) (b3 := fm) (b4 := tt) (b5 := 0) (b6 := 0) (b7 := 0) (b9 := mk) (v' := (.slice none 0 0)) rfl
      clear g2
      have g4 := g3.put hPl 4 (.int .i64 tt) (b0 := who) (b1 := seq) (b2 := 3) (b3 := fm) (b4 := tt) (b5 := 0) (b6 := 0) (b7 := 0) (b9 := mk) (v' := (.slice none 0 0)) rfl
      clear g3
      have g5 := g4.put hPl 5 (.int .i64 0) (b0 := who) (b1 := seq) (b2 := 3) (b3 := fm) (b4 := tt) (b5 := 0) (b6 := 0) (b7 := 0) (b9 := mk) (v' := (.slice none 0 0)) rfl
      clear g4
      have g6 := g5.put hPl 6 (.int .i64 0) (b0 := who) (b1 := seq) (b2 := 3) (b3 := fm) (b4 := tt) (b5 := 0) (b6 := 0) (b7 := 0) (b9 := mk) (v' := (.slice none 0 0)) rfl
      clear g5
      have g7 := g6.put hPl 7 (.int .i64 0) (b0 := who) (b1 := seq) (b2 := 3) (b3 := fm) (b4 := tt) (b5 := 0) (b6 := 0) (b7 := 0) (b9 := mk) (v' := (.slice none 0 0)) rfl
      clear g6
      have g8 := g7.put hPl 8 (.slice none 0 0) (b0 := who) (b1 := seq) (b2 := 3) (b3 := fm) (b4 := tt) (b5 := 0) (b6 := 0) (b7 := 0) (b9 := mk) (v' := (.slice none 0 0)) rfl
      clear g7
      have g9 := g8.put hPl 9 (.int .i64 mk) (b0 := who) (b1 := seq) (b2 := 3) (b3 := fm) (b4 := tt) (b5 := 0) (b6 := 0) (b7 := 0) (b9 := mk) (v' := (.slice none 0 0)) rfl
      clear g8
      have z0 := g9.c0
      have z1 := g9.c1
      have z2 := g9.c2
      have z3 := g9.c3
      have z4 := g9.c4
      have z5 := g9.c5
      have z6 := g9.c6
      have z7 := g9.c7
      have z8 := g9.c8
      have z9 := g9.c9
      refine bodyPost_ret (v := .agg #[.int .i64 who, .int .i64 seq, .int .i64 3, .int .i64 fm, .int .i64 tt, .int .i64 0, .int .i64 0, .int .i64 0, .slice none 0 0, .int .i64 mk]) (by simp [results, Try.results94, go_sem, z0, z1, z2, z3, z4, z5, z6, z7, z8, z9]) rfl ?_
      exact RdP.ok HX.out g9.grown ⟨_, rfl, Kd.R_nil _ _ _ _ _⟩ g9.spot (by rw [List.length_drop]; omega)
  · have hX := HX5.out
    rw [if_neg (by decide), if_pos rfl] at hX
    have HX6 := Lib.hid hX
    clear hX HX5
    have c2 := HE13.out.c2
    go_upto_region 10 with (fail)
    clear c2
    have HE14 := Lib.hid (HE13.out.drew hPl)
    refine start_ (n := 21) (S := fun w' => w'.cell? ⟨w.heap.size, 0, none⟩ = some (.pointer (some ⟨P, 0, none⟩))) (ds := []) #[false, false, false, false, false, false, false, false, false, false, false, false, false, false, false, false, false, false, false, false, false] (by kernel_rfl) rfl rfl HE14.out.ptr.c0 (fun hHeld => ?_); refine with_tabW entR10.tab entR10.bits (fun HT_ HW_ => ?_)
    refine pure_ (i := 0) (N := (some 47)) (v := ?_) (a' := ?_) #[true, false, false, false, false, false, false, false, false, false, false, false, false, false, false, false, false, false, false, false, false] rfl rfl (any_of HT_.out (by kernel_rfl)) (fun _ _ _ h => h) (Or.inl ⟨by rfl, ?_⟩) ?_ ?_
    rotate_left
    · intro w'
      go_simp
      with_reducible rfl
    rotate_left
    · simp only [Act.put, List.setIfInBounds_toArray, List.set_cons_zero, List.set_cons_succ, i64_w, i32_w]
      rfl
    refine pure_ (i := 1) (N := (some 48)) (v := ?_) (a' := ?_) #[true, true, false, false, false, false, false, false, false, false, false, false, false, false, false, false, false, false, false, false, false] rfl rfl (any_of HT_.out (by kernel_rfl)) (fun _ _ _ h => h) (Or.inl ⟨by rfl, ?_⟩) ?_ ?_
    rotate_left
    · intro w'
      go_simp
      with_reducible rfl
    rotate_left
    · simp only [Act.put, List.setIfInBounds_toArray, List.set_cons_zero, List.set_cons_succ, i64_w, i32_w]
      rfl
    refine pure_ (i := 2) (N := (some 49)) (v := ?_) (a' := ?_) #[true, true, true, false, false, false, false, false, false, false, false, false, false, false, false, false, false, false, false, false, false] rfl rfl (any_of HT_.out (by kernel_rfl)) (fun _ _ _ h => h) (Or.inl ⟨by rfl, ?_⟩) ?_ ?_
    rotate_left
    · intro w'
      go_simp
      with_reducible rfl
    rotate_left
    · simp only [Act.put, List.setIfInBounds_toArray, List.set_cons_zero, List.set_cons_succ, i64_w, i32_w]
      rfl
    refine pure_ (i := 3) (N := (some 50)) (v := ?_) (a' := ?_) #[true, true, true, true, false, false, false, false, false, false, false, false, false, false, false, false, false, false, false, false, false] rfl rfl (any_of HT_.out (by kernel_rfl)) (fun _ _ _ h => h) (Or.inl ⟨by rfl, ?_⟩) ?_ ?_
    rotate_left
    · intro w'
      go_simp
      with_reducible rfl
    rotate_left
    · simp only [Act.put, List.setIfInBounds_toArray, List.set_cons_zero, List.set_cons_succ, i64_w, i32_w]
      rfl
    refine pure_ (i := 6) (N := (some 53)) (v := ?_) (a' := ?_) #[true, true, true, true, false, false, true, false, false, false, false, false, false, false, false, false, false, false, false, false, false] rfl rfl (any_of HT_.out (by kernel_rfl)) (fun _ _ _ h => h) (Or.inl ⟨by rfl, ?_⟩) ?_ ?_
    rotate_left
    · intro w'
      go_simp
      with_reducible rfl
    rotate_left
    · simp only [Act.put, List.setIfInBounds_toArray, List.set_cons_zero, List.set_cons_succ, i64_w, i32_w]
      rfl
    refine pure_ (i := 9) (N := (some 56)) (v := ?_) (a' := ?_) #[true, true, true, true, false, false, true, false, false, true, false, false, false, false, false, false, false, false, false, false, false] rfl rfl (any_of HT_.out (by kernel_rfl)) (fun _ _ _ h => h) (Or.inl ⟨by rfl, ?_⟩) ?_ ?_
    rotate_left
    · intro w'
      go_simp
      with_reducible rfl
    rotate_left
    · simp only [Act.put, List.setIfInBounds_toArray, List.set_cons_zero, List.set_cons_succ, i64_w, i32_w]
      rfl
    refine take_ (i := 4) (N := (some 51)) (v := ?_) (a' := ?_) #[true, true, true, true, true, false, true, false, false, true, false, false, false, false, false, false, false, false, false, false, false] rfl rfl (take_ofW HT_.out HW_.out (by kernel_rfl)) (fun _ _ _ h => h) (Or.inl ⟨by rfl, ?_⟩) hHeld ?_ ?_
    rotate_left
    · rintro w' s0
      go_simp
      with_reducible rfl
    rotate_left
    · simp only [Act.put, List.setIfInBounds_toArray, List.set_cons_zero, List.set_cons_succ, i64_w, i32_w]
      rfl
    refine take_ (i := 7) (N := (some 54)) (v := ?_) (a' := ?_) #[true, true, true, true, true, false, true, true, false, true, false, false, false, false, false, false, false, false, false, false, false] rfl rfl (take_ofW HT_.out HW_.out (by kernel_rfl)) (fun _ _ _ h => h) (Or.inl ⟨by rfl, ?_⟩) hHeld ?_ ?_
    rotate_left
    · rintro w' s0
      go_simp
      with_reducible rfl
    rotate_left
    · simp only [Act.put, List.setIfInBounds_toArray, List.set_cons_zero, List.set_cons_succ, i64_w, i32_w]
      rfl
    refine take_ (i := 10) (N := (some 57)) (v := ?_) (a' := ?_) #[true, true, true, true, true, false, true, true, false, true, true, false, false, false, false, false, false, false, false, false, false] rfl rfl (take_ofW HT_.out HW_.out (by kernel_rfl)) (fun _ _ _ h => h) (Or.inl ⟨by rfl, ?_⟩) hHeld ?_ ?_
    rotate_left
    · rintro w' s0
      go_simp
      with_reducible rfl
    rotate_left
    · simp only [Act.put, List.setIfInBounds_toArray, List.set_cons_zero, List.set_cons_succ, i64_w, i32_w]
      rfl
    refine one_ (i := 5) (N := (some 52)) #[true, true, true, true, true, true, true, true, false, true, true, false, false, false, false, false, false, false, false, false, false] rfl rfl (one_of HT_.out (by kernel_rfl)) (by decide) (fun K hK => ?_)
    have hX := HX6.out
    rcases hres : rnum 2147483647 (b.drop q5) with f | ⟨gf, r⟩
    · rw [hres, bnd_err] at hX
      refine goesP_ Try.func131 (by kernel_rfl) rfl #[.pointer (some ⟨P, 0, none⟩), .int .i64 2147483647] (by rfl) rfl rfl (by (try simp only [List.map_toArray, List.map_cons, List.map_nil]); first | done | rfl) ?_
      refine (snum_err HE14.out.spot (HG0.out _ HE14.out.grown) hc HBB.out hq5 2147483647 (by decide) (by decide) f hres).mono ?_
      rintro e w' ⟨rfl, hg⟩
      exact .inr ⟨_, rfl, And.intro rfl (RdP.err hX (HE14.out.grown.trans hg))⟩
    obtain ⟨q6, hq6, rfl, hql, hn0gf, hn1gf⟩ := rnum_rest HBB.out hq5 hres
    rw [hres, bnd_ok] at hX
    have HX7 := Lib.hid hX
    refine goesP_ Try.func131 (by kernel_rfl) rfl #[.pointer (some ⟨P, 0, none⟩), .int .i64 2147483647] (by rfl) rfl rfl (by (try simp only [List.map_toArray, List.map_cons, List.map_nil]); first | done | rfl) ?_
    refine (snum_ok HE14.out.spot (HG0.out _ HE14.out.grown) hc HBB.out hq5 2147483647 (by decide) (by decide) gf _ hres).mono ?_
    rintro e v15 ⟨rfl, hk, hg⟩
    rw [hql] at hk
    have HE15 := Lib.hid (HE14.out.num hPl hk hg)
    clear hk hg hres hX hql HX6 HE14
    refine .inl ⟨_, rfl, ?_⟩
    refine hK.out _ _ HE15.out.ptr.c0 (fun hHeld => ?_)
    clear hK K
    refine norm_ (a' := ?_) ?_ ?_
    rotate_left
    · show Act.put _ (some 52) _ = _
      simp only [Act.put, List.setIfInBounds_toArray, List.set_cons_zero, List.set_cons_succ, i64_w, i32_w]
      rfl
    refine one_ (i := 8) (N := (some 55)) #[true, true, true, true, true, true, true, true, true, true, true, false, false, false, false, false, false, false, false, false, false] rfl rfl (one_of HT_.out (by kernel_rfl)) (by decide) (fun K hK => ?_)
    have hX := HX7.out
    rcases hres : rnum 2147483647 (b.drop q6) with f | ⟨gt, r⟩
    · rw [hres, bnd_err] at hX
      refine goesP_ Try.func131 (by kernel_rfl) rfl #[.pointer (some ⟨P, 0, none⟩), .int .i64 2147483647] (by rfl) rfl rfl (by (try simp only [List.map_toArray, List.map_cons, List.map_nil]); first | done | rfl) ?_
      refine (snum_err HE15.out.spot (HG0.out _ HE15.out.grown) hc HBB.out hq6 2147483647 (by decide) (by decide) f hres).mono ?_
      rintro e w' ⟨rfl, hg⟩
      exact .inr ⟨_, rfl, And.intro rfl (RdP.err hX (HE15.out.grown.trans hg))⟩
    obtain ⟨q7, hq7, rfl, hql, hn0gt, hn1gt⟩ := rnum_rest HBB.out hq6 hres
    rw [hres, bnd_ok] at hX
    have HX8 := Lib.hid hX
    refine goesP_ Try.func131 (by kernel_rfl) rfl #[.pointer (some ⟨P, 0, none⟩), .int .i64 2147483647] (by rfl) rfl rfl (by (try simp only [List.map_toArray, List.map_cons, List.map_nil]); first | done | rfl) ?_
    refine (snum_ok HE15.out.spot (HG0.out _ HE15.out.grown) hc HBB.out hq6 2147483647 (by decide) (by decide) gt _ hres).mono ?_
    rintro e v16 ⟨rfl, hk, hg⟩
    rw [hql] at hk
    have HE16 := Lib.hid (HE15.out.num hPl hk hg)
    clear hk hg hres hX hql HX7 HE15
    refine .inl ⟨_, rfl, ?_⟩
    refine hK.out _ _ HE16.out.ptr.c0 (fun hHeld => ?_)
    clear hK K
    refine norm_ (a' := ?_) ?_ ?_
    rotate_left
    · show Act.put _ (some 55) _ = _
      simp only [Act.put, List.setIfInBounds_toArray, List.set_cons_zero, List.set_cons_succ, i64_w, i32_w]
      rfl
    refine one_ (i := 11) (N := (some 58)) #[true, true, true, true, true, true, true, true, true, true, true, true, false, false, false, false, false, false, false, false, false] rfl rfl (one_of HT_.out (by kernel_rfl)) (by decide) (fun K hK => ?_)
    have hX := HX8.out
    rcases hres : rnum 2147483647 (b.drop q7) with f | ⟨ins, r⟩
    · rw [hres, bnd_err] at hX
      refine goesP_ Try.func131 (by kernel_rfl) rfl #[.pointer (some ⟨P, 0, none⟩), .int .i64 2147483647] (by rfl) rfl rfl (by (try simp only [List.map_toArray, List.map_cons, List.map_nil]); first | done | rfl) ?_
      refine (snum_err HE16.out.spot (HG0.out _ HE16.out.grown) hc HBB.out hq7 2147483647 (by decide) (by decide) f hres).mono ?_
      rintro e w' ⟨rfl, hg⟩
      exact .inr ⟨_, rfl, And.intro rfl (RdP.err hX (HE16.out.grown.trans hg))⟩
    obtain ⟨q8, hq8, rfl, hql, hn0ins, hn1ins⟩ := rnum_rest HBB.out hq7 hres
    rw [hres, bnd_ok] at hX
    have HX9 := Lib.hid hX
    refine goesP_ Try.func131 (by kernel_rfl) rfl #[.pointer (some ⟨P, 0, none⟩), .int .i64 2147483647] (by rfl) rfl rfl (by (try simp only [List.map_toArray, List.map_cons, List.map_nil]); first | done | rfl) ?_
    refine (snum_ok HE16.out.spot (HG0.out _ HE16.out.grown) hc HBB.out hq7 2147483647 (by decide) (by decide) ins _ hres).mono ?_
    rintro e v17 ⟨rfl, hk, hg⟩
    rw [hql] at hk
    have HE17 := Lib.hid (HE16.out.num hPl hk hg)
    clear hk hg hres hX hql HX8 HE16
    refine .inl ⟨_, rfl, ?_⟩
    refine hK.out _ _ HE17.out.ptr.c0 (fun hHeld => ?_)
    clear hK K
    refine norm_ (a' := ?_) ?_ ?_
    rotate_left
    · show Act.put _ (some 58) _ = _
      simp only [Act.put, List.setIfInBounds_toArray, List.set_cons_zero, List.set_cons_succ, i64_w, i32_w]
      rfl
    refine pure_ (i := 12) (N := (some 59)) (v := ?_) (a' := ?_) #[true, true, true, true, true, true, true, true, true, true, true, true, true, false, false, false, false, false, false, false, false] rfl rfl (any_of HT_.out (by kernel_rfl)) (fun _ _ _ h => h) (Or.inl ⟨by rfl, ?_⟩) ?_ ?_
    rotate_left
    · intro w'
      go_simp
      with_reducible rfl
    rotate_left
    · simp only [Act.put, List.setIfInBounds_toArray, List.set_cons_zero, List.set_cons_succ, i64_w, i32_w]
      rfl
    refine pure_ (i := 13) (N := (some 60)) (v := ?_) (a' := ?_) #[true, true, true, true, true, true, true, true, true, true, true, true, true, true, false, false, false, false, false, false, false] rfl rfl (any_of HT_.out (by kernel_rfl)) (fun _ _ _ h => h) (Or.inl ⟨by rfl, ?_⟩) ?_ ?_
    rotate_left
    · intro w'
      go_simp
      with_reducible rfl
    rotate_left
    · simp only [Act.put, List.setIfInBounds_toArray, List.set_cons_zero, List.set_cons_succ, i64_w, i32_w]
      rfl
    refine one_ (i := 14) (N := none) #[true, true, true, true, true, true, true, true, true, true, true, true, true, true, true, false, false, false, false, false, false] rfl rfl (one_of HT_.out (by kernel_rfl)) (by decide) (fun K hK => ?_)
    have hcc := HE17.out.c5
    have hff := HE17.out.f 5
    refine skip_ (w1 := (v17.setCell ⟨w.heap.size + 1, 5, none⟩ (.int .i64 gf))) (by rfl) rfl ?_ ?_
    · go_simp
      try rfl
    have HE18 : Hid (EnS w (v17.setCell ⟨w.heap.size + 1, 5, none⟩ (.int .i64 gf)) P A c b.length q8 who seq 1 fm tt gf 0 0 (.slice none 0 0) 0) := Lib.hid (HE17.out.put hPl 5 (.int .i64 gf) rfl)
    clear hcc hff HE17
    refine hK.out _ _ HE18.out.ptr.c0 (fun hHeld => ?_)
    clear hK K
    refine pure_ (i := 15) (N := (some 61)) (v := ?_) (a' := ?_) #[true, true, true, true, true, true, true, true, true, true, true, true, true, true, true, true, false, false, false, false, false] rfl rfl (any_of HT_.out (by kernel_rfl)) (fun _ _ _ h => h) (Or.inl ⟨by rfl, ?_⟩) ?_ ?_
    rotate_left
    · intro w'
      go_simp
      with_reducible rfl
    rotate_left
    · simp only [Act.put, List.setIfInBounds_toArray, List.set_cons_zero, List.set_cons_succ, i64_w, i32_w]
      rfl
    refine pure_ (i := 16) (N := (some 62)) (v := ?_) (a' := ?_) #[true, true, true, true, true, true, true, true, true, true, true, true, true, true, true, true, true, false, false, false, false] rfl rfl (any_of HT_.out (by kernel_rfl)) (fun _ _ _ h => h) (Or.inl ⟨by rfl, ?_⟩) ?_ ?_
    rotate_left
    · intro w'
      go_simp
      with_reducible rfl
    rotate_left
    · simp only [Act.put, List.setIfInBounds_toArray, List.set_cons_zero, List.set_cons_succ, i64_w, i32_w]
      rfl
    refine one_ (i := 17) (N := none) #[true, true, true, true, true, true, true, true, true, true, true, true, true, true, true, true, true, true, false, false, false] rfl rfl (one_of HT_.out (by kernel_rfl)) (by decide) (fun K hK => ?_)
    have hcc := HE18.out.c6
    have hff := HE18.out.f 6
    refine skip_ (w1 := ((v17.setCell ⟨w.heap.size + 1, 5, none⟩ (.int .i64 gf)).setCell ⟨w.heap.size + 1, 6, none⟩ (.int .i64 gt))) (by rfl) rfl ?_ ?_
    · go_simp
      try rfl
    have HE19 : Hid (EnS w ((v17.setCell ⟨w.heap.size + 1, 5, none⟩ (.int .i64 gf)).setCell ⟨w.heap.size + 1, 6, none⟩ (.int .i64 gt)) P A c b.length q8 who seq 1 fm tt gf gt 0 (.slice none 0 0) 0) := Lib.hid (HE18.out.put hPl 6 (.int .i64 gt) rfl)
    clear hcc hff HE18
    refine hK.out _ _ HE19.out.ptr.c0 (fun hHeld => ?_)
    clear hK K
    refine pure_ (i := 18) (N := (some 63)) (v := ?_) (a' := ?_) #[true, true, true, true, true, true, true, true, true, true, true, true, true, true, true, true, true, true, true, false, false] rfl rfl (any_of HT_.out (by kernel_rfl)) (fun _ _ _ h => h) (Or.inl ⟨by rfl, ?_⟩) ?_ ?_
    rotate_left
    · intro w'
      go_simp
      with_reducible rfl
    rotate_left
    · simp only [Act.put, List.setIfInBounds_toArray, List.set_cons_zero, List.set_cons_succ, i64_w, i32_w]
      rfl
    refine pure_ (i := 19) (N := (some 64)) (v := ?_) (a' := ?_) #[true, true, true, true, true, true, true, true, true, true, true, true, true, true, true, true, true, true, true, true, false] rfl rfl (any_of HT_.out (by kernel_rfl)) (fun _ _ _ h => h) (Or.inl ⟨by rfl, ?_⟩) ?_ ?_
    rotate_left
    · intro w'
      go_simp
      with_reducible rfl
    rotate_left
    · simp only [Act.put, List.setIfInBounds_toArray, List.set_cons_zero, List.set_cons_succ, i64_w, i32_w]
      rfl
    refine one_ (i := 20) (N := none) #[true, true, true, true, true, true, true, true, true, true, true, true, true, true, true, true, true, true, true, true, true] rfl rfl (one_of HT_.out (by kernel_rfl)) (by decide) (fun K hK => ?_)
    have hcc := HE19.out.c7
    have hff := HE19.out.f 7
    refine skip_ (w1 := (((v17.setCell ⟨w.heap.size + 1, 5, none⟩ (.int .i64 gf)).setCell ⟨w.heap.size + 1, 6, none⟩ (.int .i64 gt)).setCell ⟨w.heap.size + 1, 7, none⟩ (.int .i64 ins))) (by rfl) rfl ?_ ?_
    · go_simp
      try rfl
    have HE20 : Hid (EnS w (((v17.setCell ⟨w.heap.size + 1, 5, none⟩ (.int .i64 gf)).setCell ⟨w.heap.size + 1, 6, none⟩ (.int .i64 gt)).setCell ⟨w.heap.size + 1, 7, none⟩ (.int .i64 ins)) P A c b.length q8 who seq 1 fm tt gf gt ins (.slice none 0 0) 0) := Lib.hid (HE19.out.put hPl 7 (.int .i64 ins) rfl)
    clear hcc hff HE19
    refine hK.out _ _ HE20.out.ptr.c0 (fun hHeld => ?_)
    clear hK K
    refine done_ (done_of HT_.out (by kernel_rfl)) ?_
    go_upto_region 11 with (fail)
    have hX := HX9.out
    have hd := sdoc_is HC.out hc HBB.out (below_of_grown HB0.out HE20.out.grown hP) hP HE20.out.spot hq8
    have hEs := HE20.out.size
    obtain ⟨W11, hW11⟩ : ∃ W11, (((v17.setCell ⟨w.heap.size + 1, 5, none⟩ (.int .i64 gf)).setCell ⟨w.heap.size + 1, 6, none⟩ (.int .i64 gt)).setCell ⟨w.heap.size + 1, 7, none⟩ (.int .i64 ins)) = W11 := ⟨_, rfl⟩
    rw [hW11] at hd hEs HE20 ⊢
    have r0 := HE20.out.ptr.c0
    skip
    clear hW11
    rcases hres : rdoc (b.drop q8) with f | ⟨sl, r⟩
    · rw [hres, bnd_err] at hX
      rw [hres] at hd
      have HD := Lib.hid hd
      have HX := Lib.hid hX
      clear hX hres hd HX9
      go_wp2_with (go_at_call 125; refine HD.out.mono ?_; rintro e w17 h17; obtain ⟨rfl, hg⟩ := h17.err_inv; have HG17 := Lib.hid (HE20.out.grown.trans hg); clear h17 hg)
      exact ⟨rfl, RdP.err HX.out HG17.out⟩
    · rw [hres, bnd_ok] at hX
      rw [hres] at hd
      have HD := Lib.hid hd
      have HX := Lib.hid hX
      clear hX hres hd HX9
      go_upto_region 12 with (go_at_call 125; refine HD.out.mono ?_; rintro e w17 h17; obtain ⟨u, rfl, ht, hk, hg⟩ := h17.ok_inv; obtain ⟨Au, cu, rfl, _, _⟩ := Kd.R_reads ht; have HE30 := Lib.hid (HE20.out.num hPl hk hg); have f8 := HE30.out.f 8; have c8 := HE30.out.c8; have HE31 := Lib.hid (HE30.out.put hPl 8 (.slice Au sl.length cu) (b0 := who) (b1 := seq) (b2 := 1) (b3 := fm) (b4 := tt) (b5 := gf) (b6 := gt) (b7 := ins) (b9 := 0) (v' := .slice Au sl.length cu) rfl); have HLT : Hid (w.heap.size + 1 < W11.heap.size) := Lib.hid (by omega); have HT := Lib.hid (ht.set (E := w.heap.size + 1) HLT.out 8 (.slice Au sl.length cu)); clear h17 hk hg ht)
      have e0 := HE31.out.c0
      have e1 := HE31.out.c1
      have e2 := HE31.out.c2
      have e3 := HE31.out.c3
      have e4 := HE31.out.c4
      have e5 := HE31.out.c5
      have e6 := HE31.out.c6
      have e7 := HE31.out.c7
      have e8 := HE31.out.c8
      have e9 := HE31.out.c9
      obtain ⟨w18, hw18⟩ : ∃ w18, w17.setCell ⟨w.heap.size + 1, 8, none⟩ (.slice Au sl.length cu) = w18 := ⟨_, rfl⟩
      rw [hw18] at e0 e1 e2 e3 e4 e5 e6 e7 e8 e9 HE31 HT ⊢
      have ff := HE31.out.f
      clear hw18 HE30 HD
      go_wp2
      have g0 := HE31.out.put hPl 0 (.int .i64 who) (b0 := who) (b1 := seq) (b2 := 1) (b3 := fm) (b4 := tt) (b5 := gf) (b6 := gt) (b7 := ins) (b9 := 0) (v' := (.slice Au sl.length cu)) rfl
      have g1 := g0.put hPl 1 (.int .i64 seq) (b0 := who) (b1 := seq) (b2 := 1) (b3 := fm) (b4 := tt) (b5 := gf) (b6 := gt) (b7 := ins) (b9 := 0) (v' := (.slice Au sl.length cu)) rfl
      clear g0
      have g2 := g1.put hPl 2 (.int .i64 1) (b0 := who) (b1 := seq) (b2 := 1) (b3 := fm) (b4 := tt) (b5 := gf) (b6 := gt) (b7 := ins) (b9 := 0) (v' := (.slice Au sl.length cu)) rfl
      clear g1
      have g3 := g2.put hPl 3 (.int .i64 fm) (b0 := who) (b1 := seq) (b2 := 1) (b3 := fm) (b4 := tt) (b5 := gf) (b6 := gt) (b7 := ins) (b9 := 0) (v' := (.slice Au sl.length cu)) rfl
      clear g2
      have g4 := g3.put hPl 4 (.int .i64 tt) (b0 := who) (b1 := seq) (b2 := 1) (b3 := fm) (b4 := tt) (b5 := gf) (b6 := gt) (b7 := ins) (b9 := 0) (v' := (.slice Au sl.length cu)) rfl
      clear g3
      have g5 := g4.put hPl 5 (.int .i64 gf) (b0 := who) (b1 := seq) (b2 := 1) (b3 := fm) (b4 := tt) (b5 := gf) (b6 := gt) (b7 := ins) (b9 := 0) (v' := (.slice Au sl.length cu)) rfl
      clear g4
      have g6 := g5.put hPl 6 (.int .i64 gt) (b0 := who) (b1 := seq) (b2 := 1) (b3 := fm) (b4 := tt) (b5 := gf) (b6 := gt) (b7 := ins) (b9 := 0) (v' := (.slice Au sl.length cu)) rfl
      clear g5
      have g7 := g6.put hPl 7 (.int .i64 ins) (b0 := who) (b1 := seq) (b2 := 1) (b3 := fm) (b4 := tt) (b5 := gf) (b6 := gt) (b7 := ins) (b9 := 0) (v' := (.slice Au sl.length cu)) rfl
      clear g6
      have g8 := g7.put hPl 8 (.slice Au sl.length cu) (b0 := who) (b1 := seq) (b2 := 1) (b3 := fm) (b4 := tt) (b5 := gf) (b6 := gt) (b7 := ins) (b9 := 0) (v' := (.slice Au sl.length cu)) rfl
      clear g7
      have g9 := g8.put hPl 9 (.int .i64 0) (b0 := who) (b1 := seq) (b2 := 1) (b3 := fm) (b4 := tt) (b5 := gf) (b6 := gt) (b7 := ins) (b9 := 0) (v' := (.slice Au sl.length cu)) rfl
      clear g8
      have t0 := HT.out
      replace t0 := t0.set (E := w.heap.size + 1) HLT.out 0 (.int .i64 who)
      replace t0 := t0.set (E := w.heap.size + 1) HLT.out 1 (.int .i64 seq)
      replace t0 := t0.set (E := w.heap.size + 1) HLT.out 2 (.int .i64 1)
      replace t0 := t0.set (E := w.heap.size + 1) HLT.out 3 (.int .i64 fm)
      replace t0 := t0.set (E := w.heap.size + 1) HLT.out 4 (.int .i64 tt)
      replace t0 := t0.set (E := w.heap.size + 1) HLT.out 5 (.int .i64 gf)
      replace t0 := t0.set (E := w.heap.size + 1) HLT.out 6 (.int .i64 gt)
      replace t0 := t0.set (E := w.heap.size + 1) HLT.out 7 (.int .i64 ins)
      replace t0 := t0.set (E := w.heap.size + 1) HLT.out 8 (.slice Au sl.length cu)
      replace t0 := t0.set (E := w.heap.size + 1) HLT.out 9 (.int .i64 0)
      have z0 := g9.c0
      have z1 := g9.c1
      have z2 := g9.c2
      have z3 := g9.c3
      have z4 := g9.c4
      have z5 := g9.c5
      have z6 := g9.c6
      have z7 := g9.c7
      have z8 := g9.c8
      have z9 := g9.c9
      refine bodyPost_ret (v := .agg #[.int .i64 who, .int .i64 seq, .int .i64 1, .int .i64 fm, .int .i64 tt, .int .i64 gf, .int .i64 gt, .int .i64 ins, .slice Au sl.length cu, .int .i64 0]) (by simp [results, Try.results94, go_sem, z0, z1, z2, z3, z4, z5, z6, z7, z8, z9]) rfl ?_
      exact RdP.ok HX.out g9.grown ⟨_, rfl, Kd.R_lower t0 (by have := HLT.out; omega)⟩ g9.spot rfl
  · have hX := HX5.out
    rw [if_neg (by decide), if_neg (by decide)] at hX
    have HX6 := Lib.hid hX
    clear hX HX5
    have hX := HX6.out
    have hd := sdoc_is HC.out hc HBB.out (below_of_grown HB0.out HE13.out.grown hP) hP HE13.out.spot hq5
    have hEs := HE13.out.size
    obtain ⟨W11, hW11⟩ : ∃ W11, (((v10.setCell ⟨w.heap.size + 1, 2, none⟩ (.int .i64 0)).setCell ⟨w.heap.size + 1, 3, none⟩ (.int .i64 fm)).setCell ⟨w.heap.size + 1, 4, none⟩ (.int .i64 tt)) = W11 := ⟨_, rfl⟩
    rw [hW11] at hd hEs HE13 ⊢
    have r0 := HE13.out.ptr.c0
    have c2 := HE13.out.c2
    clear hW11
    rcases hres : rdoc (b.drop q5) with f | ⟨sl, r⟩
    · rw [hres, bnd_err] at hX
      rw [hres] at hd
      have HD := Lib.hid hd
      have HX := Lib.hid hX
      clear hX hres hd HX6
      go_wp2_with (go_at_call 125; refine HD.out.mono ?_; rintro e w17 h17; obtain ⟨rfl, hg⟩ := h17.err_inv; have HG17 := Lib.hid (HE13.out.grown.trans hg); clear h17 hg)
      exact ⟨rfl, RdP.err HX.out HG17.out⟩
    · rw [hres, bnd_ok] at hX
      rw [hres] at hd
      have HD := Lib.hid hd
      have HX := Lib.hid hX
      clear hX hres hd HX6
      go_upto_region 12 with (go_at_call 125; refine HD.out.mono ?_; rintro e w17 h17; obtain ⟨u, rfl, ht, hk, hg⟩ := h17.ok_inv; obtain ⟨Au, cu, rfl, _, _⟩ := Kd.R_reads ht; have HE30 := Lib.hid (HE13.out.num hPl hk hg); have f8 := HE30.out.f 8; have c8 := HE30.out.c8; have HE31 := Lib.hid (HE30.out.put hPl 8 (.slice Au sl.length cu) (b0 := who) (b1 := seq) (b2 := 0) (b3 := fm) (b4 := tt) (b5 := 0) (b6 := 0) (b7 := 0) (b9 := 0) (v' := .slice Au sl.length cu) rfl); have HLT : Hid (w.heap.size + 1 < W11.heap.size) := Lib.hid (by omega); have HT := Lib.hid (ht.set (E := w.heap.size + 1) HLT.out 8 (.slice Au sl.length cu)); clear h17 hk hg ht)
      have e0 := HE31.out.c0
      have e1 := HE31.out.c1
      have e2 := HE31.out.c2
      have e3 := HE31.out.c3
      have e4 := HE31.out.c4
      have e5 := HE31.out.c5
      have e6 := HE31.out.c6
      have e7 := HE31.out.c7
      have e8 := HE31.out.c8
      have e9 := HE31.out.c9
      obtain ⟨w18, hw18⟩ : ∃ w18, w17.setCell ⟨w.heap.size + 1, 8, none⟩ (.slice Au sl.length cu) = w18 := ⟨_, rfl⟩
      rw [hw18] at e0 e1 e2 e3 e4 e5 e6 e7 e8 e9 HE31 HT ⊢
      have ff := HE31.out.f
      clear hw18 HE30 HD
      go_wp2
      have g0 := HE31.out.put hPl 0 (.int .i64 who) (b0 := who) (b1 := seq) (b2 := 0) (b3 := fm) (b4 := tt) (b5 := 0) (b6 := 0) (b7 := 0) (b9 := 0) (v' := (.slice Au sl.length cu)) rfl
      have g1 := g0.put hPl 1 (.int .i64 seq) (b0 := who) (b1 := seq) (b2 := 0) (b3 := fm) (b4 := tt) (b5 := 0) (b6 := 0) (b7 := 0) (b9 := 0) (v' := (.slice Au sl.length cu)) rfl
      clear g0
      have g2 := g1.put hPl 2 (.int .i64 0) (b0 := who) (b1 := seq) (b2 := 0) (b3 := fm) (b4 := tt) (b5 := 0) (b6 := 0) (b7 := 0) (b9 := 0) (v' := (.slice Au sl.length cu)) rfl
      clear g1
      have g3 := g2.put hPl 3 (.int .i64 fm) (b0 := who) (b1 := seq) (b2 := 0) (b3 := fm) (b4 := tt) (b5 := 0) (b6 := 0) (b7 := 0) (b9 := 0) (v' := (.slice Au sl.length cu)) rfl
      clear g2
      have g4 := g3.put hPl 4 (.int .i64 tt) (b0 := who) (b1 := seq) (b2 := 0) (b3 := fm) (b4 := tt) (b5 := 0) (b6 := 0) (b7 := 0) (b9 := 0) (v' := (.slice Au sl.length cu)) rfl
      clear g3
      have g5 := g4.put hPl 5 (.int .i64 0) (b0 := who) (b1 := seq) (b2 := 0) (b3 := fm) (b4 := tt) (b5 := 0) (b6 := 0) (b7 := 0) (b9 := 0) (v' := (.slice Au sl.length cu)) rfl
      clear g4
      have g6 := g5.put hPl 6 (.int .i64 0) (b0 := who) (b1 := seq) (b2 := 0) (b3 := fm) (b4 := tt) (b5 := 0) (b6 := 0) (b7 := 0) (b9 := 0) (v' := (.slice Au sl.length cu)) rfl
      clear g5
      have g7 := g6.put hPl 7 (.int .i64 0) (b0 := who) (b1 := seq) (b2 := 0) (b3 := fm) (b4 := tt) (b5 := 0) (b6 := 0) (b7 := 0) (b9 := 0) (v' := (.slice Au sl.length cu)) rfl
      clear g6
      have g8 := g7.put hPl 8 (.slice Au sl.length cu) (b0 := who) (b1 := seq) (b2 := 0) (b3 := fm) (b4 := tt) (b5 := 0) (b6 := 0) (b7 := 0) (b9 := 0) (v' := (.slice Au sl.length cu)) rfl
      clear g7
      have g9 := g8.put hPl 9 (.int .i64 0) (b0 := who) (b1 := seq) (b2 := 0) (b3 := fm) (b4 := tt) (b5 := 0) (b6 := 0) (b7 := 0) (b9 := 0) (v' := (.slice Au sl.length cu)) rfl
      clear g8
      have t0 := HT.out
      replace t0 := t0.set (E := w.heap.size + 1) HLT.out 0 (.int .i64 who)
      replace t0 := t0.set (E := w.heap.size + 1) HLT.out 1 (.int .i64 seq)
      replace t0 := t0.set (E := w.heap.size + 1) HLT.out 2 (.int .i64 0)
      replace t0 := t0.set (E := w.heap.size + 1) HLT.out 3 (.int .i64 fm)
      replace t0 := t0.set (E := w.heap.size + 1) HLT.out 4 (.int .i64 tt)
      replace t0 := t0.set (E := w.heap.size + 1) HLT.out 5 (.int .i64 0)
      replace t0 := t0.set (E := w.heap.size + 1) HLT.out 6 (.int .i64 0)
      replace t0 := t0.set (E := w.heap.size + 1) HLT.out 7 (.int .i64 0)
      replace t0 := t0.set (E := w.heap.size + 1) HLT.out 8 (.slice Au sl.length cu)
      replace t0 := t0.set (E := w.heap.size + 1) HLT.out 9 (.int .i64 0)
      have z0 := g9.c0
      have z1 := g9.c1
      have z2 := g9.c2
      have z3 := g9.c3
      have z4 := g9.c4
      have z5 := g9.c5
      have z6 := g9.c6
      have z7 := g9.c7
      have z8 := g9.c8
      have z9 := g9.c9
      refine bodyPost_ret (v := .agg #[.int .i64 who, .int .i64 seq, .int .i64 0, .int .i64 fm, .int .i64 tt, .int .i64 0, .int .i64 0, .int .i64 0, .slice Au sl.length cu, .int .i64 0]) (by simp [results, Try.results94, go_sem, z0, z1, z2, z3, z4, z5, z6, z7, z8, z9]) rfl ?_
      exact RdP.ok HX.out g9.grown ⟨_, rfl, Kd.R_lower t0 (by have := HLT.out; omega)⟩ g9.spot rfl
end Go.Proofs.Ytmbnjgnmblgjoaa.Man
end

-- Run
section
/- codec.run: what its deferred closure does, what it comes to. -/



namespace Go.Proofs.Ytmbnjgnmblgjoaa.Man
open Go.RowKit Go.Proofs.YtmbnjgnmblgjoaaW.PrintWords Go.Proofs.YtmbnjgnmblgjoaaW.PrintLast Go.Proofs.YtmbnjgnmblgjoaaW.PrintMore
set_option linter.unusedVariables false
set_option linter.unusedSimpArgs false
set_option maxRecDepth 100000

theorem assert_err (v : Value) (W : World) : (Instr.typeAssert (.iface 28 v) 20 28 true).run Try.prog W = .ok (.tuple #[v, .bool true]) W := by
  simp [Instr.typeAssert, run_underlying Try.underlying28, go_sem, Result.andThen]
set_option maxHeartbeats 4000000 in
theorem catch_err (p : Addr) (x : Value) (f : Int) (w : World) (hc : w.cell? p = some x) (hz : w.frozen? p = false) :
    CallsD Try.prog 143 #[.pointer (some p)] (.panicking (errCh f)) w fun e u' w' =>
      e = .returned (.tuple #[]) ∧ u' = .panicking [{ v := .iface 28 (.int .i64 f), recovered := true }] ∧ w' = w.setCell p (.int .i64 f) := by
  have hta := assert_err (.int .i64 f)
  refine callsD_of_wpS Try.func143 rfl fun c₀ cs hu => ?_
  apply wpS_seq
  apply wpS_region
  simp [wpOpsS, go_sem, recoverD, hu, Try.ntmps143, Exit.thenS]
  refine wpS_of_wp ?_
  go_wp2
  cases c₀
  simp_all [bodyPostS, results, Try.results143]
theorem catch_none (p : Addr) (w : World) :
    CallsD Try.prog 143 #[.pointer (some p)] .returning w fun e u' w' => e = .returned (.tuple #[]) ∧ u' = .returning ∧ w' = w := by
  refine callsD_of_wpS Try.func143 rfl fun c₀ cs hu => ?_
  apply wpS_seq
  apply wpS_region
  simp [wpOpsS, go_sem, recoverD, hu, Try.ntmps143, Exit.thenS]
  refine wpS_of_wp ?_
  go_wp2
  cases c₀
  simp_all [bodyPostS, results, Try.results143]

/-- The result's variable, as_ run lays it. -/
def ResAt (w : World) (R : Nat) (f : Int) : Prop := w.heap[R]? = some (.cells #[.int .i64 f] 28 (0, 0))
theorem ResAt.c0 {w : World} {R : Nat} {f : Int} (k : ResAt w R f) : w.cell? ⟨R, 0, none⟩ = some (.int .i64 f) := by simp [World.cell?, show w.heap[R]? = _ from k]
theorem ResAt.f {w : World} {R : Nat} {f : Int} (k : ResAt w R f) : w.frozen? ⟨R, 0, none⟩ = false := by simp [World.frozen?, show w.heap[R]? = _ from k]
theorem ResAt.put {w : World} {R : Nat} {f : Int} (k : ResAt w R f) (g : Int) : ResAt (w.setCell ⟨R, 0, none⟩ (.int .i64 g)) R g := by
  unfold ResAt World.setCell
  simp [Array.getElem?_modify, show w.heap[R]? = _ from k]
theorem ResAt.lt {w : World} {R : Nat} {f : Int} (k : ResAt w R f) : R < w.heap.size := (Array.getElem?_eq_some_iff.1 k).1
abbrev runW (w : World) (A : Option Addr) (n c : Nat) : World := (w.alloc (.cells #[.int .i64 0] 28)).alloc (.cells #[.slice A n c, .int .i64 0] 194)

set_option maxHeartbeats 8000000 in
/-- The reading panics. -/
theorem run_err (w : World) (A : Option Addr) (n c : Nat) (R T : Nat) (cr ct : Array Value) (f : Int) (J : World → Prop)
    (er : ∀ args w, (callFunc R args).run Try.prog w = .ok (.enter R args) w)
    (hread : Calls Try.prog R (#[.agg #[.pointer (some ⟨w.heap.size + 1, 0, none⟩)]] ++ cr) (runW w A n c) fun e w1 => e = .panicked (errCh f) ∧ ResAt w1 w.heap.size 0 ∧ J w1) :
    Calls Try.prog 92 #[.slice A n c, .func (.func R) #[] cr, .func (.func T) #[] ct] w fun e w' => e = .returned (.int .i64 f) ∧ ∃ w1, J w1 ∧ w' = w1.setCell ⟨w.heap.size, 0, none⟩ (.int .i64 f) := by
  have hmf : ∀ (fn : Fn) (first cap : Array Value) (w : World), (Instr.makeFunc fn first cap).run Try.prog w = .ok (.func fn first cap) w := fun _ _ _ _ => rfl
  have HR := Lib.hid hread
  clear hread
  go_enter_defers Try.func92, Try.ntmps92
  go_wp2_with (fail)
  refine HR.out.mono ?_
  rintro e w1 ⟨rfl, hres, hj⟩
  refine leaves_cons (f := 143) (args := #[.pointer (some ⟨w.heap.size, 0, none⟩)]) (by simp) (by simp [go_sem]) ?_
  refine (catch_err ⟨w.heap.size, 0, none⟩ _ f w1 hres.c0 hres.f).mono ?_
  rintro e u' w'' ⟨rfl, rfl, rfl⟩
  have hc := (hres.put f).c0
  simp [Leaves, settle, results, Try.results92, go_sem, hc]
  exact ⟨w1, hj, rfl⟩

set_option maxHeartbeats 8000000 in
/-- The reading ends ahead of the bytes' end. -/
theorem run_left (w : World) (A : Option Addr) (n c q : Nat) (R T : Nat) (cr ct : Array Value) (J : World → Prop) (hq : q < n)
    (er : ∀ args w, (callFunc R args).run Try.prog w = .ok (.enter R args) w)
    (hread : Calls Try.prog R (#[.agg #[.pointer (some ⟨w.heap.size + 1, 0, none⟩)]] ++ cr) (runW w A n c) fun e w1 => e = .returned (.tuple #[]) ∧ ResAt w1 w.heap.size 0 ∧ SpotAt w1 (w.heap.size + 1) A c n q ∧ J w1) :
    Calls Try.prog 92 #[.slice A n c, .func (.func R) #[] cr, .func (.func T) #[] ct] w fun e w' => e = .returned (.int .i64 4) ∧ ∃ w1, J w1 ∧ w' = w1.setCell ⟨w.heap.size, 0, none⟩ (.int .i64 4) := by
  have hmf : ∀ (fn : Fn) (first cap : Array Value) (w : World), (Instr.makeFunc fn first cap).run Try.prog w = .ok (.func fn first cap) w := fun _ _ _ _ => rfl
  have HR := Lib.hid hread
  clear hread
  have hlt : decide (q < n) = true := decide_eq_true hq
  have hlt2 : decide ((q : Int) < (n : Int)) = true := decide_eq_true (by omega)
  go_enter_defers Try.func92, Try.ntmps92
  go_wp2_with (fail)
  refine HR.out.mono ?_
  rintro e w1 ⟨rfl, hres, hs, hj⟩
  have d1 := hs.c1
  have HS := Lib.hid hs
  have HRS := Lib.hid hres
  clear hs hres
  go_wp2_with (go_at_call 144; refine (fail_yes _ _).mono ?_; rintro e w' ⟨rfl, rfl⟩)
  refine leaves_cons (f := 143) (args := #[.pointer (some ⟨w.heap.size, 0, none⟩)]) (by simp) (by simp [go_sem]) ?_
  refine (catch_err ⟨w.heap.size, 0, none⟩ _ 4 w1 HRS.out.c0 HRS.out.f).mono ?_
  rintro e u' w'' ⟨rfl, rfl, rfl⟩
  have hc := (HRS.out.put 4).c0
  simp [Leaves, settle, results, Try.results92, go_sem, hc]
  exact ⟨w1, hj, rfl⟩

set_option maxHeartbeats 8000000 in
/-- All bytes are read; what was read may not be. -/
theorem run_bad (w : World) (A : Option Addr) (n c : Nat) (R T : Nat) (cr ct : Array Value) (J : World → Prop) (er' : Int) (hne : er' ≠ 0)
    (er : ∀ args w, (callFunc R args).run Try.prog w = .ok (.enter R args) w) (et : ∀ args w, (callFunc T args).run Try.prog w = .ok (.enter T args) w)
    (hread : Calls Try.prog R (#[.agg #[.pointer (some ⟨w.heap.size + 1, 0, none⟩)]] ++ cr) (runW w A n c) fun e w1 => e = .returned (.tuple #[]) ∧ ResAt w1 w.heap.size 0 ∧ SpotAt w1 (w.heap.size + 1) A c n n ∧ J w1)
    (hright : ∀ w1, J w1 → Calls Try.prog T ct w1 fun e w2 => e = .returned (.int .i64 er') ∧ Below w1.heap.size w1 w2) :
    Calls Try.prog 92 #[.slice A n c, .func (.func R) #[] cr, .func (.func T) #[] ct] w fun e w' => e = .returned (.int .i64 4) ∧ ∃ w1 w2, J w1 ∧ Below w1.heap.size w1 w2 ∧ w' = w2.setCell ⟨w.heap.size, 0, none⟩ (.int .i64 4) := by
  have hmf : ∀ (fn : Fn) (first cap : Array Value) (w : World), (Instr.makeFunc fn first cap).run Try.prog w = .ok (.func fn first cap) w := fun _ _ _ _ => rfl
  have HR := Lib.hid hread
  have HT := Lib.hid hright
  clear hread hright
  have hneb : (er' != 0) = true := by simpa using hne
  go_enter_defers Try.func92, Try.ntmps92
  go_wp2_with (fail)
  refine HR.out.mono ?_
  rintro e w1 ⟨rfl, hres, hs, hj⟩
  have d1 := hs.c1
  have HS := Lib.hid hs
  have HRS := Lib.hid hres
  clear hs hres
  go_wp2_with (fail)
  refine (HT.out w1 hj).mono ?_
  rintro e w2 ⟨rfl, hb⟩
  have HS2 := Lib.hid (HS.out.below hb HS.out.lt)
  have hr2 : ResAt w2 w.heap.size 0 := (hb.block _ HRS.out.lt).trans HRS.out
  have HR2 := Lib.hid hr2
  have HBB := Lib.hid hb
  clear hr2 hb
  go_wp2_with (go_at_call 144; refine (fail_yes _ _).mono ?_; rintro e w' ⟨rfl, rfl⟩)
  refine leaves_cons (f := 143) (args := #[.pointer (some ⟨w.heap.size, 0, none⟩)]) (by simp) (by simp [go_sem]) ?_
  refine (catch_err ⟨w.heap.size, 0, none⟩ _ 4 w2 HR2.out.c0 HR2.out.f).mono ?_
  rintro e u' w'' ⟨rfl, rfl, rfl⟩
  have hc := (HR2.out.put 4).c0
  simp [Leaves, settle, results, Try.results92, go_sem, hc]
  exact ⟨w1, hj, w2, HBB.out, rfl⟩

set_option maxHeartbeats 8000000 in
/-- All bytes are read; what was read may be. -/
theorem run_good (w : World) (A : Option Addr) (n c : Nat) (R T : Nat) (cr ct : Array Value) (J : World → Prop)
    (er : ∀ args w, (callFunc R args).run Try.prog w = .ok (.enter R args) w) (et : ∀ args w, (callFunc T args).run Try.prog w = .ok (.enter T args) w)
    (hread : Calls Try.prog R (#[.agg #[.pointer (some ⟨w.heap.size + 1, 0, none⟩)]] ++ cr) (runW w A n c) fun e w1 => e = .returned (.tuple #[]) ∧ ResAt w1 w.heap.size 0 ∧ SpotAt w1 (w.heap.size + 1) A c n n ∧ J w1)
    (hright : ∀ w1, J w1 → Calls Try.prog T ct w1 fun e w2 => e = .returned (.int .i64 0) ∧ Below w1.heap.size w1 w2) :
    Calls Try.prog 92 #[.slice A n c, .func (.func R) #[] cr, .func (.func T) #[] ct] w fun e w' => e = .returned (.int .i64 0) ∧ ∃ w1 w2, J w1 ∧ Below w1.heap.size w1 w2 ∧ w' = w2.setCell ⟨w.heap.size, 0, none⟩ (.int .i64 0) := by
  have hmf : ∀ (fn : Fn) (first cap : Array Value) (w : World), (Instr.makeFunc fn first cap).run Try.prog w = .ok (.func fn first cap) w := fun _ _ _ _ => rfl
  have HR := Lib.hid hread
  have HT := Lib.hid hright
  clear hread hright
  go_enter_defers Try.func92, Try.ntmps92
  go_wp2_with (fail)
  refine HR.out.mono ?_
  rintro e w1 ⟨rfl, hres, hs, hj⟩
  have d1 := hs.c1
  have HS := Lib.hid hs
  have HRS := Lib.hid hres
  clear hs hres
  go_wp2_with (fail)
  refine (HT.out w1 hj).mono ?_
  rintro e w2 ⟨rfl, hb⟩
  have HS2 := Lib.hid (HS.out.below hb HS.out.lt)
  have hr2 : ResAt w2 w.heap.size 0 := (hb.block _ HRS.out.lt).trans HRS.out
  have HR2 := Lib.hid hr2
  have HBB := Lib.hid hb
  have g0 := hr2.c0
  have gf := hr2.f
  clear hr2 hb
  go_wp2_with (go_at_call 144; refine (fail_no _ _).mono ?_; rintro e w' ⟨rfl, rfl⟩)
  refine leaves_cons (f := 143) (args := #[.pointer (some ⟨w.heap.size, 0, none⟩)]) (by simp) (by simp [go_sem]) ?_
  refine (catch_none ⟨w.heap.size, 0, none⟩ _).mono ?_
  rintro e u' w'' ⟨rfl, rfl, rfl⟩
  have hc := (HR2.out.put 0).c0
  simp [Leaves, settle, results, Try.results92, go_sem, hc]
  exact ⟨w1, hj, w2, HBB.out, rfl⟩
end Go.Proofs.Ytmbnjgnmblgjoaa.Man
end

-- Gets
section
/- codec.GetDoc, GetEntry of the given program: what they come to, for all bytes. -/

namespace Go.Proofs.Ytmbnjgnmblgjoaa.Man
open Go.RowKit Go.Proofs.YtmbnjgnmblgjoaaW.PrintWords Go.Proofs.YtmbnjgnmblgjoaaW.PrintLast Go.Proofs.YtmbnjgnmblgjoaaW.PrintMore
set_option linter.unusedVariables false
set_option linter.unusedSimpArgs false
set_option maxRecDepth 100000

/-- A variable that a closure holds. -/
def RowAt (w : World) (V : Nat) (v : Value) : Prop := w.heap[V]? = some (.cells #[v] 22 (0, 0))
theorem RowAt.c0 {w : World} {V : Nat} {v : Value} (k : RowAt w V v) : w.cell? ⟨V, 0, none⟩ = some v := by simp [World.cell?, show w.heap[V]? = _ from k]
theorem RowAt.f {w : World} {V : Nat} {v : Value} (k : RowAt w V v) : w.frozen? ⟨V, 0, none⟩ = false := by simp [World.frozen?, show w.heap[V]? = _ from k]
theorem RowAt.lt {w : World} {V : Nat} {v : Value} (k : RowAt w V v) : V < w.heap.size := (Array.getElem?_eq_some_iff.1 k).1
theorem RowAt.put {w : World} {V : Nat} {v : Value} (k : RowAt w V v) (u : Value) : RowAt (w.setCell ⟨V, 0, none⟩ u) V u := by
  unfold RowAt World.setCell
  simp [Array.getElem?_modify, show w.heap[V]? = _ from k]
theorem heap_set_ne (w : World) (B k j : Nat) (u : Value) (h : j ≠ B) : (w.setCell ⟨B, k, none⟩ u).heap[j]? = w.heap[j]? := Below.heap_setCell w ⟨B, k, none⟩ u j h
theorem TR.C {w : World} {base : Nat} {v : Value} {xs : List K.S111} (h : TR w base v xs) : ∃ A c, v = .slice A xs.length c ∧ xs.length ≤ c ∧ Kd.C K.k111 w A xs.length xs := Kd.R_reads h

theorem spot0 (w : World) (A : Option Addr) (n c : Nat) : SpotAt (runW w A n c) (w.heap.size + 1) A c n 0 := by
  have := World.alloc_heap_new (w.alloc (.cells #[.int .i64 0] 28)) (.cells #[.slice A n c, .int .i64 0] 194)
  rwa [World.size_alloc] at this
theorem res0 (w : World) (A : Option Addr) (n c : Nat) : ResAt (runW w A n c) w.heap.size 0 := (Below.heap_alloc _ _ _ (by simp)).trans (World.alloc_heap_new w _)
theorem runW_below (w : World) (A : Option Addr) (n c : Nat) : Below w.heap.size w (runW w A n c) := ((Below.refl _ _).alloc (Nat.le_refl _) _).alloc (by simp) _
theorem runW_size (w : World) (A : Option Addr) (n c : Nat) : (runW w A n c).heap.size = w.heap.size + 2 := by unfold runW; rw [World.size_alloc, World.size_alloc]
theorem enters_fn {f : Nat} {fn : Func} (hf : Try.prog.funcs[f]? = some fn) (hname : (fn.name == "runtime.NumGoroutine") = false) (hb : fn.body.isSome = true) : ∀ args w, (callFunc f args).run Try.prog w = .ok (.enter f args) w := fun args w => enters_ hf hname hb args w
/-- A world that keeps what is old, but some blocks that are young. -/
theorem below_set_young {w w1 : World} (hb : Below w.heap.size w w1) (B k : Nat) (u : Value) (hB : w.heap.size ≤ B) : Below w.heap.size w (w1.setCell ⟨B, k, none⟩ u) := hb.setCell (p := ⟨B, k, none⟩) hB u

/-! ### An entry -/
section
variable {w : World} {E : Nat} {a0 a1 a2 a3 a4 a5 a6 a7 a9 : Int} {v : Value}
theorem EntC.lt (h : EntC w E a0 a1 a2 a3 a4 a5 a6 a7 v a9) : E < w.heap.size := (Array.getElem?_eq_some_iff.1 h).1
theorem EntC.f (h : EntC w E a0 a1 a2 a3 a4 a5 a6 a7 v a9) (i : Nat) : w.frozen? ⟨E, i, none⟩ = false := by simp [World.frozen?, show w.heap[E]? = _ from h]
theorem EntC.put (h : EntC w E a0 a1 a2 a3 a4 a5 a6 a7 v a9) (i : Nat) (u : Value) {b0 b1 b2 b3 b4 b5 b6 b7 b9 : Int} {v' : Value}
    (he : (#[.int .i64 a0, .int .i64 a1, .int .i64 a2, .int .i64 a3, .int .i64 a4, .int .i64 a5, .int .i64 a6, .int .i64 a7, v, .int .i64 a9] : Array Value).setIfInBounds i u = #[.int .i64 b0, .int .i64 b1, .int .i64 b2, .int .i64 b3, .int .i64 b4, .int .i64 b5, .int .i64 b6, .int .i64 b7, v', .int .i64 b9]) :
    EntC (w.setCell ⟨E, i, none⟩ u) E b0 b1 b2 b3 b4 b5 b6 b7 v' b9 := by
  unfold EntC World.setCell
  unfold EntC at h
  have he2 := congrArg Array.toList he
  simp [Array.getElem?_modify, h]
  simpa using he2
theorem EntC.cells (h : EntC w E a0 a1 a2 a3 a4 a5 a6 a7 v a9) : w.cell? ⟨E, 0, none⟩ = some (.int .i64 a0) ∧ w.cell? ⟨E, 1, none⟩ = some (.int .i64 a1) ∧ w.cell? ⟨E, 2, none⟩ = some (.int .i64 a2) ∧ w.cell? ⟨E, 3, none⟩ = some (.int .i64 a3) ∧ w.cell? ⟨E, 4, none⟩ = some (.int .i64 a4) ∧
    w.cell? ⟨E, 5, none⟩ = some (.int .i64 a5) ∧ w.cell? ⟨E, 6, none⟩ = some (.int .i64 a6) ∧ w.cell? ⟨E, 7, none⟩ = some (.int .i64 a7) ∧ w.cell? ⟨E, 8, none⟩ = some v ∧ w.cell? ⟨E, 9, none⟩ = some (.int .i64 a9) := by
  simp [World.cell?, show w.heap[E]? = _ from h]
end
/-- An entry stored whole. -/
def setEnt (w : World) (E : Nat) (b0 b1 b2 b3 b4 b5 b6 b7 : Int) (u : Value) (b9 : Int) : World :=
  (((((((((w.setCell ⟨E, 0, none⟩ (.int .i64 b0)).setCell ⟨E, 1, none⟩ (.int .i64 b1)).setCell ⟨E, 2, none⟩ (.int .i64 b2)).setCell ⟨E, 3, none⟩ (.int .i64 b3)).setCell ⟨E, 4, none⟩ (.int .i64 b4)).setCell ⟨E, 5, none⟩ (.int .i64 b5)).setCell ⟨E, 6, none⟩ (.int .i64 b6)).setCell ⟨E, 7, none⟩ (.int .i64 b7)).setCell ⟨E, 8, none⟩ u).setCell ⟨E, 9, none⟩ (.int .i64 b9)
theorem EntC.set {w : World} {E : Nat} {a0 a1 a2 a3 a4 a5 a6 a7 a9 : Int} {v : Value} (h : EntC w E a0 a1 a2 a3 a4 a5 a6 a7 v a9) (b0 b1 b2 b3 b4 b5 b6 b7 : Int) (u : Value) (b9 : Int) : EntC (setEnt w E b0 b1 b2 b3 b4 b5 b6 b7 u b9) E b0 b1 b2 b3 b4 b5 b6 b7 u b9 :=
  (((((((((h.put 0 (.int .i64 b0) rfl).put 1 (.int .i64 b1) rfl).put 2 (.int .i64 b2) rfl).put 3 (.int .i64 b3) rfl).put 4 (.int .i64 b4) rfl).put 5 (.int .i64 b5) rfl).put 6 (.int .i64 b6) rfl).put 7 (.int .i64 b7) rfl).put 8 u rfl).put 9 (.int .i64 b9) rfl
theorem setEnt_ne (w : World) (E j : Nat) (b0 b1 b2 b3 b4 b5 b6 b7 : Int) (u : Value) (b9 : Int) (h : j ≠ E) : (setEnt w E b0 b1 b2 b3 b4 b5 b6 b7 u b9).heap[j]? = w.heap[j]? := by
  unfold setEnt
  rw [heap_set_ne _ _ _ _ _ h, heap_set_ne _ _ _ _ _ h, heap_set_ne _ _ _ _ _ h, heap_set_ne _ _ _ _ _ h, heap_set_ne _ _ _ _ _ h, heap_set_ne _ _ _ _ _ h, heap_set_ne _ _ _ _ _ h, heap_set_ne _ _ _ _ _ h, heap_set_ne _ _ _ _ _ h, heap_set_ne _ _ _ _ _ h]
theorem TR.setEnt {w : World} {base E : Nat} {v : Value} {xs : List K.S111} (h : TR w base v xs) (hE : E < base) (b0 b1 b2 b3 b4 b5 b6 b7 : Int) (u : Value) (b9 : Int) : TR (setEnt w E b0 b1 b2 b3 b4 b5 b6 b7 u b9) base v xs :=
  (((((((((h.set hE 0 _).set hE 1 _).set hE 2 _).set hE 3 _).set hE 4 _).set hE 5 _).set hE 6 _).set hE 7 _).set hE 8 _).set hE 9 _
theorem below_setEnt {w w1 : World} (hb : Below w.heap.size w w1) (E : Nat) (hE : w.heap.size ≤ E) (b0 b1 b2 b3 b4 b5 b6 b7 : Int) (u : Value) (b9 : Int) : Below w.heap.size w (setEnt w1 E b0 b1 b2 b3 b4 b5 b6 b7 u b9) :=
  below_set_young (below_set_young (below_set_young (below_set_young (below_set_young (below_set_young (below_set_young (below_set_young (below_set_young (below_set_young hb E 0 _ hE) E 1 _ hE) E 2 _ hE) E 3 _ hE) E 4 _ hE) E 5 _ hE) E 6 _ hE) E 7 _ hE) E 8 _ hE) E 9 _ hE

set_option maxHeartbeats 8000000 in
theorem getEnt1_err {w0 w : World} {P V c p : Nat} {A : Option Addr} {b : List Int} (hC : Kd.C (Kd.int .u8) w0 A b.length b) (hc : b.length ≤ c) (hB : areBytesN b = true) (hb : Below w0.heap.size w0 w) (hP : w0.heap.size ≤ P) (k : SpotAt w P A c b.length p) (hp : p ≤ b.length) (f : Int) (hres : rent (b.drop p) = .error f) :
    Calls Try.prog 93 (#[.agg #[.pointer (some ⟨P, 0, none⟩)]] ++ #[.pointer (some ⟨V, 0, none⟩)]) w fun e w' => e = .panicked (errCh f) ∧ w.grownBy w' (some P) := by
  have hPl := k.lt
  have hbx : Below w.heap.size w (w.alloc (.cells #[.pointer (some ⟨P, 0, none⟩)] 140)) := (Below.refl _ _).alloc (Nat.le_refl _) _
  have hd := sent_is hC hc hB (hb.trans (hbx.mono hb.size)) hP (k.below hbx hPl) hp
  rw [hres] at hd
  have HD := Lib.hid hd
  have HX := Lib.hid (grown_of_below hbx (some P))
  clear hC hB hb k hd hres hbx
  show Calls _ _ #[.agg #[.pointer (some ⟨P, 0, none⟩)], .pointer (some ⟨V, 0, none⟩)] _ _
  go_enter Try.func93, Try.ntmps93
  go_wp2_with (go_at_call 94; refine HD.out.mono ?_; rintro e w1 h1; obtain ⟨rfl, hg⟩ := h1.err_inv; have HG := Lib.hid (HX.out.trans hg); clear h1 hg)
  exact ⟨rfl, rfl, HG.out⟩

set_option maxHeartbeats 8000000 in
theorem getEnt1_ok {w0 w : World} {P V c p : Nat} {A : Option Addr} {b : List Int} (hC : Kd.C (Kd.int .u8) w0 A b.length b) (hc : b.length ≤ c) (hB : areBytesN b = true) (hb : Below w0.heap.size w0 w) (hP : w0.heap.size ≤ P) (k : SpotAt w P A c b.length p) (hp : p ≤ b.length) (x : K.S26) (r : List Int) (hres : rent (b.drop p) = .ok (x, r))
    {a0 a1 a2 a3 a4 a5 a6 a7 a9 : Int} {v : Value} (kv : EntC w V a0 a1 a2 a3 a4 a5 a6 a7 v a9) (hVP : V ≠ P) :
    Calls Try.prog 93 (#[.agg #[.pointer (some ⟨P, 0, none⟩)]] ++ #[.pointer (some ⟨V, 0, none⟩)]) w fun e w' => e = .returned (.tuple #[]) ∧ ∃ u w2, w' = setEnt w2 V x.f0 x.f1 x.f2.f0 x.f2.f1 x.f2.f2 x.f2.f3 x.f2.f4 x.f2.f5 u x.f2.f7 ∧ EntC w2 V a0 a1 a2 a3 a4 a5 a6 a7 v a9 ∧ TR w2 w.heap.size u x.f2.f6 ∧ SpotAt w2 P A c b.length (b.length - r.length) ∧ w.grownBy w2 (some P) := by
  have hPl := k.lt
  have hbx : Below w.heap.size w (w.alloc (.cells #[.pointer (some ⟨P, 0, none⟩)] 140)) := (Below.refl _ _).alloc (Nat.le_refl _) _
  have hd := sent_is hC hc hB (hb.trans (hbx.mono hb.size)) hP (k.below hbx hPl) hp
  rw [hres] at hd
  have HD := Lib.hid hd
  have HX := Lib.hid (grown_of_below hbx (some P))
  have HZ := Lib.hid hbx.size
  have HV := Lib.hid kv
  clear hC hB hb k hd hres hbx kv
  show Calls _ _ #[.agg #[.pointer (some ⟨P, 0, none⟩)], .pointer (some ⟨V, 0, none⟩)] _ _
  go_enter Try.func93, Try.ntmps93
  go_wp2_with (go_at_call 94; refine HD.out.mono ?_; rintro e w1 h1; obtain ⟨v1, rfl, ⟨u, rfl, ht⟩, hk, hg⟩ := h1.ok_inv; obtain ⟨A1, k1, rfl, _, _⟩ := ht.C; have HT := Lib.hid (Kd.R_lower ht HZ.out); have HK := Lib.hid hk; have HG := Lib.hid (HX.out.trans hg); have hv1 : EntC w1 V a0 a1 a2 a3 a4 a5 a6 a7 v a9 := (HG.out.block _ HV.out.lt (by intro e; exact hVP (Option.some.inj e))).trans HV.out; have HV1 := Lib.hid hv1; obtain ⟨v0, v1, v2, v3, v4, v5, v6, v7, v8, v9⟩ := hv1.cells; have vf := hv1.f; clear h1 ht hk hg hv1)
  go_end0
  exact ⟨rfl, _, w1, rfl, HV1.out, HT.out, HK.out, HG.out⟩

set_option maxHeartbeats 8000000 in
theorem getEnt2_is {w : World} {V base : Nat} {u : Value} {x : K.S26} (kv : EntC w V x.f0 x.f1 x.f2.f0 x.f2.f1 x.f2.f2 x.f2.f3 x.f2.f4 x.f2.f5 u x.f2.f7) (ht : TR w base u x.f2.f6) :
    Calls Try.prog 95 #[.pointer (some ⟨V, 0, none⟩)] w fun e w' => e = .returned (.int .i64 (entryE x)) ∧ Below w.heap.size w w' := by
  obtain ⟨A1, k1, rfl, hk1, hC⟩ := ht.C
  have HD := Lib.hid (entry_is x A1 k1 w hC hk1)
  obtain ⟨v0, v1, v2, v3, v4, v5, v6, v7, v8, v9⟩ := kv.cells
  clear kv ht hC
  go_enter Try.func95, Try.ntmps95
  go_wp2_with (go_at_call 87; refine HD.out.mono ?_; rintro e w1 ⟨rfl, hb⟩; have HB := Lib.hid hb; clear hb)
  go_ret
  exact ⟨rfl, HB.out⟩
end Go.Proofs.Ytmbnjgnmblgjoaa.Man
end

-- GetEnt
section
/- codec.GetEntry of the given program: what it comes to, for all bytes. Printed by wip/tools/gen_getent.py. -/

namespace Go.Proofs.Ytmbnjgnmblgjoaa.Man
open Go.RowKit Go.Proofs.YtmbnjgnmblgjoaaW.PrintWords Go.Proofs.YtmbnjgnmblgjoaaW.PrintLast Go.Proofs.YtmbnjgnmblgjoaaW.PrintMore
set_option linter.unusedVariables false
set_option linter.unusedSimpArgs false
set_option maxRecDepth 100000

theorem EntC.ne {w w1 : World} {E : Nat} {a0 a1 a2 a3 a4 a5 a6 a7 a9 : Int} {v : Value} (h : EntC w E a0 a1 a2 a3 a4 a5 a6 a7 v a9) (e : w1.heap[E]? = w.heap[E]?) : EntC w1 E a0 a1 a2 a3 a4 a5 a6 a7 v a9 := e.trans h

set_option maxHeartbeats 16000000 in
theorem getEntry_is (w : World) (A : Option Addr) (c : Nat) (b : List Int) (hC : Kd.C (Kd.int .u8) w A b.length b) (hc : b.length ≤ c) (hB : areBytesN b = true) :
    Calls Try.prog 23 #[.slice A b.length c] w fun e w' => ∃ r, e = .returned (.tuple #[r, .int .i64 (getEntryF b).2]) ∧ EntR w.heap.size (getEntryF b).1 r w' ∧ Below w.heap.size w w' := by
  have hmf : ∀ (fn : Fn) (first cap : Array Value) (w : World), (Instr.makeFunc fn first cap).run Try.prog w = .ok (.func fn first cap) w := fun _ _ _ _ => rfl
  obtain ⟨wV, hwV⟩ : ∃ wV, wV = (w.alloc (.cells #[.int .i64 0, .int .i64 0, .int .i64 0, .int .i64 0, .int .i64 0, .int .i64 0, .int .i64 0, .int .i64 0, .slice none 0 0, .int .i64 0] 26)).alloc (.cells #[.int .i64 0, .int .i64 0, .int .i64 0, .int .i64 0, .int .i64 0, .int .i64 0, .int .i64 0, .int .i64 0, .slice none 0 0, .int .i64 0] 26) := ⟨_, rfl⟩
  have hbV : Below w.heap.size w wV := by rw [hwV]; exact ((Below.refl _ _).alloc (Nat.le_refl _) _).alloc (by simp) _
  have hzV : wV.heap.size = w.heap.size + 2 := by rw [hwV, World.size_alloc, World.size_alloc]
  have hS : EntC wV w.heap.size 0 0 0 0 0 0 0 0 (.slice none 0 0) 0 := by rw [hwV]; exact (Below.heap_alloc _ _ _ (by simp)).trans (World.alloc_heap_new w _)
  have hV : EntC wV (w.heap.size + 1) 0 0 0 0 0 0 0 0 (.slice none 0 0) 0 := by rw [hwV]; have := World.alloc_heap_new (w.alloc (.cells #[.int .i64 0, .int .i64 0, .int .i64 0, .int .i64 0, .int .i64 0, .int .i64 0, .int .i64 0, .int .i64 0, .slice none 0 0, .int .i64 0] 26)) (.cells #[.int .i64 0, .int .i64 0, .int .i64 0, .int .i64 0, .int .i64 0, .int .i64 0, .int .i64 0, .int .i64 0, .slice none 0 0, .int .i64 0] 26); rwa [World.size_alloc] at this
  have hbr := runW_below wV A b.length c
  have hbR : Below w.heap.size w (runW wV A b.length c) := hbV.trans (hbr.mono hbV.size)
  have hrz := runW_size wV A b.length c
  have hVr : EntC (runW wV A b.length c) (w.heap.size + 1) 0 0 0 0 0 0 0 0 (.slice none 0 0) 0 := hV.ne (hbr.block _ hV.lt)
  have hSr : EntC (runW wV A b.length c) w.heap.size 0 0 0 0 0 0 0 0 (.slice none 0 0) 0 := hS.ne (hbr.block _ hS.lt)
  have hs := spot0 wV A b.length c
  have e1 := enters_fn Try.func93 (by kernel_rfl) rfl
  have e2 := enters_fn Try.func95 (by kernel_rfl) rfl
  have hR0 : ∀ {w1 : World}, (runW wV A b.length c).grownBy w1 (some (wV.heap.size + 1)) → ResAt w1 wV.heap.size 0 := fun hg => (hg.block _ (by rw [hrz]; omega) (by intro e; have := Option.some.inj e; omega)).trans (res0 wV A b.length c)
  have hS0 : ∀ {w1 : World}, (runW wV A b.length c).grownBy w1 (some (wV.heap.size + 1)) → EntC w1 w.heap.size 0 0 0 0 0 0 0 0 (.slice none 0 0) 0 := fun hg => hSr.ne (hg.block _ (by rw [hrz]; omega) (by intro e; have := Option.some.inj e; omega))
  have hbG : ∀ {w1 : World}, (runW wV A b.length c).grownBy w1 (some (wV.heap.size + 1)) → Below w.heap.size w w1 := fun hg => below_of_grown hbR hg (by omega)
  unfold getEntryF
  rcases hres : rent b with f | ⟨x, r⟩
  · have hd := getEnt1_err (V := w.heap.size + 1) hC hc hB hbR (by omega) hs (Nat.zero_le _) f (by rw [List.drop_zero]; exact hres)
    have hrun := run_err wV A b.length c 93 95 #[.pointer (some ⟨w.heap.size + 1, 0, none⟩)] #[.pointer (some ⟨w.heap.size + 1, 0, none⟩)] f (fun w1 => EntC w1 w.heap.size 0 0 0 0 0 0 0 0 (.slice none 0 0) 0 ∧ Below w.heap.size w w1) e1
      (hd.mono fun e w1 ⟨h1, h2⟩ => ⟨h1, hR0 h2, hS0 h2, hbG h2⟩)
    have hne := ErrNz.ent b f hres
    have hneb : (f != 0) = true := by simpa using hne
    rw [hzV, hwV] at hrun
    have HR := Lib.hid hrun
    unfold allF
    simp only
    have HZ : Hid (w.heap.size ≤ w.heap.size + 2) := Lib.hid (by omega)
    clear hC hB hwV hbV hzV hS hV hbr hbR hrz hVr hSr hs e1 e2 hR0 hS0 hbG hres hd hrun hne
    go_enter Try.func23, Try.ntmps23
    go_upto_region 4 with (go_at_call 92; refine HR.out.mono ?_; rintro e w1 ⟨rfl, w2, ⟨hs1, hj⟩, rfl⟩; have HJ := Lib.hid (below_set_young hj (w.heap.size + 2) 0 (.int .i64 f) HZ.out); have HS1 : Hid (EntC (w2.setCell ⟨w.heap.size + 2, 0, none⟩ (.int .i64 f)) w.heap.size 0 0 0 0 0 0 0 0 (.slice none 0 0) 0) := Lib.hid (hs1.ne (heap_set_ne w2 _ 0 _ _ (by omega))); obtain ⟨v0, v1, v2, v3, v4, v5, v6, v7, v8, v9⟩ := HS1.out.cells; have vf := HS1.out.f; clear hj hs1)
    go_wp2
    obtain ⟨z0, z1, z2, z3, z4, z5, z6, z7, z8, z9⟩ := (HS1.out.set 0 0 0 0 0 0 0 0 (.slice none 0 0) 0).cells
    unfold setEnt at z0 z1 z2 z3 z4 z5 z6 z7 z8 z9
    refine bodyPost_ret (v := .tuple #[.agg #[.int .i64 0, .int .i64 0, .int .i64 0, .int .i64 0, .int .i64 0, .int .i64 0, .int .i64 0, .int .i64 0, .slice none 0 0, .int .i64 0], .int .i64 f]) (by simp [results, Try.results23, go_sem, z0, z1, z2, z3, z4, z5, z6, z7, z8, z9]) rfl ?_
    exact ⟨_, rfl, ⟨_, rfl, Kd.R_nil _ _ _ _ _⟩, below_setEnt HJ.out w.heap.size (Nat.le_refl _) 0 0 0 0 0 0 0 0 (.slice none 0 0) 0⟩
  · have hd := getEnt1_ok hC hc hB hbR (by omega) hs (Nat.zero_le _) x r (by rw [List.drop_zero]; exact hres) hVr (by omega)
    have hbr1 := (rent_inv hB hres).1
    have hrl : r.length ≤ b.length := by rw [hbr1, List.length_append]; omega
    have hread : Calls Try.prog 93 (#[.agg #[.pointer (some ⟨wV.heap.size + 1, 0, none⟩)]] ++ #[.pointer (some ⟨w.heap.size + 1, 0, none⟩)]) (runW wV A b.length c) fun e w1 => e = .returned (.tuple #[]) ∧ ResAt w1 wV.heap.size 0 ∧ SpotAt w1 (wV.heap.size + 1) A c b.length (b.length - r.length) ∧ (∃ u, EntC w1 (w.heap.size + 1) x.f0 x.f1 x.f2.f0 x.f2.f1 x.f2.f2 x.f2.f3 x.f2.f4 x.f2.f5 u x.f2.f7 ∧ TR w1 (w.heap.size + 4) u x.f2.f6 ∧ EntC w1 w.heap.size 0 0 0 0 0 0 0 0 (.slice none 0 0) 0 ∧ Below w.heap.size w w1) := by
      refine hd.mono ?_
      rintro e w1 ⟨rfl, u, w2, rfl, hv2, ht, hk, hg⟩
      refine ⟨rfl, (setEnt_ne w2 _ _ _ _ _ _ _ _ _ _ _ _ (by omega)).trans (hR0 hg), (setEnt_ne w2 _ _ _ _ _ _ _ _ _ _ _ _ (by omega)).trans hk, u, hv2.set _ _ _ _ _ _ _ _ _ _, Kd.R_lower (ht.setEnt (by rw [hrz]; omega) _ _ _ _ _ _ _ _ _ _) (by rw [hrz]; omega), (hS0 hg).ne (setEnt_ne w2 _ _ _ _ _ _ _ _ _ _ _ _ (by omega)), below_setEnt (hbG hg) _ (Nat.le_succ _) _ _ _ _ _ _ _ _ _ _⟩
    have hright : ∀ w1, (∃ u, EntC w1 (w.heap.size + 1) x.f0 x.f1 x.f2.f0 x.f2.f1 x.f2.f2 x.f2.f3 x.f2.f4 x.f2.f5 u x.f2.f7 ∧ TR w1 (w.heap.size + 4) u x.f2.f6 ∧ EntC w1 w.heap.size 0 0 0 0 0 0 0 0 (.slice none 0 0) 0 ∧ Below w.heap.size w w1) → Calls Try.prog 95 #[.pointer (some ⟨w.heap.size + 1, 0, none⟩)] w1 fun e w2 => e = .returned (.int .i64 (entryE x)) ∧ Below w1.heap.size w1 w2 := by
      rintro w1 ⟨u, kv, ht, _⟩
      exact getEnt2_is kv ht
    unfold allF
    simp only
    by_cases hr : 0 < r.length
    · rw [if_pos (.inl hr)]
      have hrun := run_left wV A b.length c (b.length - r.length) 93 95 #[.pointer (some ⟨w.heap.size + 1, 0, none⟩)] #[.pointer (some ⟨w.heap.size + 1, 0, none⟩)] _ (by omega) e1 hread
      rw [hzV, hwV] at hrun
      have HR := Lib.hid hrun
      have HZ : Hid (w.heap.size ≤ w.heap.size + 2) := Lib.hid (by omega)
      clear hC hB hwV hbV hzV hS hV hbr hbR hrz hVr hSr hs e1 e2 hR0 hS0 hbG hres hd hrun hread hright hbr1
      go_enter Try.func23, Try.ntmps23
      go_upto_region 4 with (go_at_call 92; refine HR.out.mono ?_; rintro e w1 ⟨rfl, w2, ⟨u, _, _, hs1, hj⟩, rfl⟩; have HJ := Lib.hid (below_set_young hj (w.heap.size + 2) 0 (.int .i64 4) HZ.out); have HS1 : Hid (EntC (w2.setCell ⟨w.heap.size + 2, 0, none⟩ (.int .i64 4)) w.heap.size 0 0 0 0 0 0 0 0 (.slice none 0 0) 0) := Lib.hid (hs1.ne (heap_set_ne w2 _ 0 _ _ (by omega))); obtain ⟨v0, v1, v2, v3, v4, v5, v6, v7, v8, v9⟩ := HS1.out.cells; have vf := HS1.out.f; clear hj hs1)
      go_wp2
      obtain ⟨z0, z1, z2, z3, z4, z5, z6, z7, z8, z9⟩ := (HS1.out.set 0 0 0 0 0 0 0 0 (.slice none 0 0) 0).cells
      unfold setEnt at z0 z1 z2 z3 z4 z5 z6 z7 z8 z9
      refine bodyPost_ret (v := .tuple #[.agg #[.int .i64 0, .int .i64 0, .int .i64 0, .int .i64 0, .int .i64 0, .int .i64 0, .int .i64 0, .int .i64 0, .slice none 0 0, .int .i64 0], .int .i64 4]) (by simp [results, Try.results23, go_sem, z0, z1, z2, z3, z4, z5, z6, z7, z8, z9]) rfl ?_
      exact ⟨_, rfl, ⟨_, rfl, Kd.R_nil _ _ _ _ _⟩, below_setEnt HJ.out w.heap.size (Nat.le_refl _) 0 0 0 0 0 0 0 0 (.slice none 0 0) 0⟩
    · have hr0 : b.length - r.length = b.length := by omega
      rw [hr0] at hread
      by_cases h0 : entryE x = 0
      · rw [if_neg (by omega)]
        rw [h0] at hright
        have hrun := run_good wV A b.length c 93 95 #[.pointer (some ⟨w.heap.size + 1, 0, none⟩)] #[.pointer (some ⟨w.heap.size + 1, 0, none⟩)] _ e1 e2 hread hright
        rw [hzV, hwV] at hrun
        have HR := Lib.hid hrun
        have HZ : Hid (w.heap.size ≤ w.heap.size + 2) := Lib.hid (by omega)
        clear hC hB hwV hbV hzV hS hV hbr hbR hrz hVr hSr hs e1 e2 hR0 hS0 hbG hres hd hrun hread hright hbr1 hr hr0 h0
        go_enter Try.func23, Try.ntmps23
        go_upto_region 5 with (go_at_call 92; refine HR.out.mono ?_; rintro e w1 ⟨rfl, w2, w3, ⟨u, hv, ht, hs1, hj⟩, hb3, rfl⟩; obtain ⟨A1, k1, rfl, _, _⟩ := ht.C; have HJ := Lib.hid (below_set_young (hj.trans (hb3.mono hj.size)) (w.heap.size + 2) 0 (.int .i64 0) HZ.out); have HV3 : Hid (EntC (w3.setCell ⟨w.heap.size + 2, 0, none⟩ (.int .i64 0)) (w.heap.size + 1) x.f0 x.f1 x.f2.f0 x.f2.f1 x.f2.f2 x.f2.f3 x.f2.f4 x.f2.f5 (.slice A1 x.f2.f6.length k1) x.f2.f7) := Lib.hid (hv.ne ((heap_set_ne w3 _ 0 _ _ (by omega)).trans (hb3.block _ hv.lt))); have HS3 : Hid (EntC (w3.setCell ⟨w.heap.size + 2, 0, none⟩ (.int .i64 0)) w.heap.size 0 0 0 0 0 0 0 0 (.slice none 0 0) 0) := Lib.hid (hs1.ne ((heap_set_ne w3 _ 0 _ _ (by omega)).trans (hb3.block _ hs1.lt))); have HT : Hid (TR (w3.setCell ⟨w.heap.size + 2, 0, none⟩ (.int .i64 0)) (w.heap.size + 4) (.slice A1 x.f2.f6.length k1) x.f2.f6) := Lib.hid (TR.set (Kd.R_below ht hb3) (E := w.heap.size + 2) (by omega) 0 _); clear hv ht hj hb3 hs1)
        obtain ⟨w4, hw4⟩ : ∃ w4, w3.setCell ⟨w.heap.size + 2, 0, none⟩ (.int .i64 0) = w4 := ⟨_, rfl⟩
        rw [hw4] at HJ HV3 HS3 HT ⊢
        clear hw4
        obtain ⟨u0, u1, u2, u3, u4, u5, u6, u7, u8, u9⟩ := HV3.out.cells
        obtain ⟨s0, s1, s2, s3, s4, s5, s6, s7, s8, s9⟩ := HS3.out.cells
        have sf := HS3.out.f
        go_wp2
        obtain ⟨z0, z1, z2, z3, z4, z5, z6, z7, z8, z9⟩ := (HS3.out.set x.f0 x.f1 x.f2.f0 x.f2.f1 x.f2.f2 x.f2.f3 x.f2.f4 x.f2.f5 (.slice A1 x.f2.f6.length k1) x.f2.f7).cells
        unfold setEnt at z0 z1 z2 z3 z4 z5 z6 z7 z8 z9
        refine bodyPost_ret (v := .tuple #[.agg #[.int .i64 x.f0, .int .i64 x.f1, .int .i64 x.f2.f0, .int .i64 x.f2.f1, .int .i64 x.f2.f2, .int .i64 x.f2.f3, .int .i64 x.f2.f4, .int .i64 x.f2.f5, .slice A1 x.f2.f6.length k1, .int .i64 x.f2.f7], .int .i64 0]) (by simp [results, Try.results23, go_sem, z0, z1, z2, z3, z4, z5, z6, z7, z8, z9]) rfl ?_
        exact ⟨_, rfl, ⟨_, rfl, Kd.R_lower (HT.out.setEnt (E := w.heap.size) (by omega) _ _ _ _ _ _ _ _ _ _) (by omega)⟩, below_setEnt HJ.out w.heap.size (Nat.le_refl _) x.f0 x.f1 x.f2.f0 x.f2.f1 x.f2.f2 x.f2.f3 x.f2.f4 x.f2.f5 (.slice A1 x.f2.f6.length k1) x.f2.f7⟩
      · rw [if_pos (.inr h0)]
        have hrun := run_bad wV A b.length c 93 95 #[.pointer (some ⟨w.heap.size + 1, 0, none⟩)] #[.pointer (some ⟨w.heap.size + 1, 0, none⟩)] _ (entryE x) h0 e1 e2 hread hright
        rw [hzV, hwV] at hrun
        have HR := Lib.hid hrun
        have HZ : Hid (w.heap.size ≤ w.heap.size + 2) := Lib.hid (by omega)
        clear hC hB hwV hbV hzV hS hV hbr hbR hrz hVr hSr hs e1 e2 hR0 hS0 hbG hres hd hrun hread hright hbr1 hr hr0 h0
        go_enter Try.func23, Try.ntmps23
        go_upto_region 4 with (go_at_call 92; refine HR.out.mono ?_; rintro e w1 ⟨rfl, w2, w3, ⟨u, _, _, hs0, hj0⟩, hb3, rfl⟩; have hj := hj0.trans (hb3.mono hj0.size); have hs1 := hs0.ne (hb3.block _ hs0.lt); have HJ := Lib.hid (below_set_young hj (w.heap.size + 2) 0 (.int .i64 4) HZ.out); have HS1 : Hid (EntC (w3.setCell ⟨w.heap.size + 2, 0, none⟩ (.int .i64 4)) w.heap.size 0 0 0 0 0 0 0 0 (.slice none 0 0) 0) := Lib.hid (hs1.ne (heap_set_ne w3 _ 0 _ _ (by omega))); obtain ⟨v0, v1, v2, v3, v4, v5, v6, v7, v8, v9⟩ := HS1.out.cells; have vf := HS1.out.f; clear hj hs1)
        go_wp2
        obtain ⟨z0, z1, z2, z3, z4, z5, z6, z7, z8, z9⟩ := (HS1.out.set 0 0 0 0 0 0 0 0 (.slice none 0 0) 0).cells
        unfold setEnt at z0 z1 z2 z3 z4 z5 z6 z7 z8 z9
        refine bodyPost_ret (v := .tuple #[.agg #[.int .i64 0, .int .i64 0, .int .i64 0, .int .i64 0, .int .i64 0, .int .i64 0, .int .i64 0, .int .i64 0, .slice none 0 0, .int .i64 0], .int .i64 4]) (by simp [results, Try.results23, go_sem, z0, z1, z2, z3, z4, z5, z6, z7, z8, z9]) rfl ?_
        exact ⟨_, rfl, ⟨_, rfl, Kd.R_nil _ _ _ _ _⟩, below_setEnt HJ.out w.heap.size (Nat.le_refl _) 0 0 0 0 0 0 0 0 (.slice none 0 0) 0⟩
end Go.Proofs.Ytmbnjgnmblgjoaa.Man
end

-- ReadMsg
section
/- codec's reader: a message. Printed by wip/tools/gen_readmsg.py. -/

namespace Go.Proofs.Ytmbnjgnmblgjoaa.Man
open Go.RowKit Go.Proofs.YtmbnjgnmblgjoaaW.PrintWords Go.Proofs.YtmbnjgnmblgjoaaW.PrintLast Go.Proofs.YtmbnjgnmblgjoaaW.PrintMore
set_option linter.unusedVariables false
set_option linter.unusedSimpArgs false
set_option maxRecDepth 100000

/-- A row of entries of the call's own. -/
abbrev ER (w : World) (base : Nat) (v : Value) (xs : List K.S26) : Prop := Kd.R K.k26 26 w base (fun _ => True) v xs
theorem ER.grown {w w1 : World} {base P : Nat} {v : Value} {xs : List K.S26} (h : ER w base v xs) (hg : w.grownBy w1 (some P)) (hP : P < base) : ER w1 base v xs :=
  Kd.R_mono (Kd.R_grown (Kd.R_bound h) hg (fun j hj e => by have h1 := hj.2.1; have h2 := Option.some.inj e; omega)) (fun _ _ => trivial)
theorem ER.set {w : World} {base E : Nat} {v : Value} {xs : List K.S26} (h : ER w base v xs) (hE : E < base) (k : Nat) (u : Value) : ER (w.setCell ⟨E, k, none⟩ u) base v xs := ER.grown h (grownBy_set w E k u (World.grownBy.refl w _)) hE
theorem ER.C {w : World} {base : Nat} {v : Value} {xs : List K.S26} (h : ER w base v xs) : ∃ A c, v = .slice A xs.length c ∧ xs.length ≤ c ∧ Kd.C K.k26 w A xs.length xs := Kd.R_reads h
theorem ER.lt {w : World} {base j : Nat} {v : Value} {xs : List K.S26} (h : ER w base v xs) (hj : v.ownBlock = some j) : j < w.heap.size := ((Kd.R_bound h).1 j hj).2.2.1
/-- What is older than w stays, but two blocks. -/
structure Kp2 (w W : World) (P V : Nat) : Prop where
  os : W.os = w.os
  tape : W.tape = w.tape
  output : W.output = w.output
  size : w.heap.size ≤ W.heap.size
  block : ∀ j, j < w.heap.size → j ≠ P → j ≠ V → W.heap[j]? = w.heap[j]?
theorem Kp2.refl (w : World) (P V : Nat) : Kp2 w w P V := ⟨rfl, rfl, rfl, Nat.le_refl _, fun _ _ _ _ => rfl⟩
theorem Kp2.num {w W W' : World} {P V : Nat} (h : Kp2 w W P V) (hg : W.grownBy W' (some P)) : Kp2 w W' P V :=
  ⟨hg.os.trans h.os, hg.tape.trans h.tape, hg.output.trans h.output, Nat.le_trans h.size hg.size, fun j hj h1 h2 => (hg.block j (Nat.lt_of_lt_of_le hj h.size) (fun e => h1 (Option.some.inj e))).trans (h.block j hj h1 h2)⟩
theorem Kp2.below {w W W' : World} {P V m : Nat} (h : Kp2 w W P V) (hb : Below m W W') (hm : w.heap.size ≤ m) : Kp2 w W' P V :=
  ⟨hb.os.trans h.os, hb.tape.trans h.tape, hb.output.trans h.output, Nat.le_trans h.size hb.size, fun j hj h1 h2 => (hb.block j (by omega)).trans (h.block j hj h1 h2)⟩
theorem Kp2.set {w W : World} {P V : Nat} (h : Kp2 w W P V) (k : Nat) (u : Value) : Kp2 w (W.setCell ⟨V, k, none⟩ u) P V :=
  ⟨h.os, h.tape, h.output, by simpa [World.setCell] using h.size, fun j hj h1 h2 => (heap_set_ne W V k j u h2).trans (h.block j hj h1 h2)⟩
/-- A message's block. -/
def MsgC (w : World) (V : Nat) (a0 a1 a2 : Int) (v : Value) : Prop := w.heap[V]? = some (.cells #[.int .i64 a0, .int .i64 a1, .int .i64 a2, v] 71 (0, 0))
theorem MsgC.lt {w : World} {V : Nat} {a0 a1 a2 : Int} {v : Value} (h : MsgC w V a0 a1 a2 v) : V < w.heap.size := (Array.getElem?_eq_some_iff.1 h).1
theorem MsgC.cells {w : World} {V : Nat} {a0 a1 a2 : Int} {v : Value} (h : MsgC w V a0 a1 a2 v) : w.cell? ⟨V, 0, none⟩ = some (.int .i64 a0) ∧ w.cell? ⟨V, 1, none⟩ = some (.int .i64 a1) ∧ w.cell? ⟨V, 2, none⟩ = some (.int .i64 a2) ∧ w.cell? ⟨V, 3, none⟩ = some v := by simp [World.cell?, show w.heap[V]? = _ from h]
theorem MsgC.f {w : World} {V : Nat} {a0 a1 a2 : Int} {v : Value} (h : MsgC w V a0 a1 a2 v) (i : Nat) : w.frozen? ⟨V, i, none⟩ = false := by simp [World.frozen?, show w.heap[V]? = _ from h]
theorem MsgC.put {w : World} {V : Nat} {a0 a1 a2 b0 b1 b2 : Int} {v v' : Value} (h : MsgC w V a0 a1 a2 v) (i : Nat) (u : Value) (he : (#[.int .i64 a0, .int .i64 a1, .int .i64 a2, v] : Array Value).setIfInBounds i u = #[.int .i64 b0, .int .i64 b1, .int .i64 b2, v']) : MsgC (w.setCell ⟨V, i, none⟩ u) V b0 b1 b2 v' := by
  unfold MsgC World.setCell
  unfold MsgC at h
  have he2 := congrArg Array.toList he
  simp [Array.getElem?_modify, h]
  simpa using he2
/-- What a reading of a message stands at. -/
structure MgS (w W : World) (P V : Nat) (A : Option Addr) (c n q : Nat) (a0 a1 a2 : Int) (v : Value) : Prop where
  spot : SpotAt W P A c n q
  ptr : PtrAt W w.heap.size P
  msg : MsgC W V a0 a1 a2 v
  kp : Kp2 w W P V
section
variable {w W W' : World} {P V c n q q' m : Nat} {A : Option Addr} {a0 a1 a2 b0 b1 b2 : Int} {v v' : Value}
theorem MgS.num (h : MgS w W P V A c n q a0 a1 a2 v) (hP : P < w.heap.size) (hVP : V ≠ P) (hk : SpotAt W' P A c n q') (hg : W.grownBy W' (some P)) : MgS w W' P V A c n q' a0 a1 a2 v :=
  ⟨hk, h.ptr.grown hg hP, (hg.block _ h.msg.lt (fun e => hVP (Option.some.inj e))).trans h.msg, h.kp.num hg⟩
theorem MgS.below (h : MgS w W P V A c n q a0 a1 a2 v) (hP : P < w.heap.size) (hVP : V ≠ P) (hb : Below W.heap.size W W') : MgS w W' P V A c n q a0 a1 a2 v :=
  h.num hP hVP (h.spot.below hb h.spot.lt) (grown_of_below hb _)
theorem MgS.drew (h : MgS w W P V A c n q a0 a1 a2 v) (hP : P < w.heap.size) (hVP : V ≠ P) : MgS w W.drew P V A c n q a0 a1 a2 v := h.below hP hVP (below_drew1 (Below.refl _ _))
theorem MgS.f (h : MgS w W P V A c n q a0 a1 a2 v) (i : Nat) : W.frozen? ⟨V, i, none⟩ = false := h.msg.f i
theorem MgS.put (h : MgS w W P V A c n q a0 a1 a2 v) (hVP : V ≠ P) (hV : V < w.heap.size) (i : Nat) (u : Value) (he : (#[.int .i64 a0, .int .i64 a1, .int .i64 a2, v] : Array Value).setIfInBounds i u = #[.int .i64 b0, .int .i64 b1, .int .i64 b2, v']) : MgS w (W.setCell ⟨V, i, none⟩ u) P V A c n q b0 b1 b2 v' :=
  ⟨(heap_set_ne W V i P u (Ne.symm hVP)).trans h.spot, (heap_set_ne W V i _ u (by omega)).trans h.ptr, h.msg.put i u he, h.kp.set i u⟩
theorem MgS.c0 (h : MgS w W P V A c n q a0 a1 a2 v) : W.cell? ⟨V, 0, none⟩ = some (.int .i64 a0) := h.msg.cells.1
theorem MgS.c1 (h : MgS w W P V A c n q a0 a1 a2 v) : W.cell? ⟨V, 1, none⟩ = some (.int .i64 a1) := h.msg.cells.2.1
theorem MgS.c2 (h : MgS w W P V A c n q a0 a1 a2 v) : W.cell? ⟨V, 2, none⟩ = some (.int .i64 a2) := h.msg.cells.2.2.1
theorem MgS.c3 (h : MgS w W P V A c n q a0 a1 a2 v) : W.cell? ⟨V, 3, none⟩ = some v := h.msg.cells.2.2.2
end
/-- What the reading of a message leaves. -/
def MgP (w : World) (P V : Nat) (A : Option Addr) (c : Nat) (b : List Int) (res : Rd MsgL) (e : Ending) (w' : World) : Prop :=
  Kp2 w w' P V ∧ match res with
  | .error f => e = .panicked (errCh f)
  | .ok (m, r) => e = .returned (.tuple #[]) ∧ ∃ v, MsgC w' V m.k m.who m.ver v ∧ ER w' w.heap.size v m.l ∧ SpotAt w' P A c b.length (b.length - r.length)
theorem MgP.err {w : World} {P V : Nat} {A : Option Addr} {c : Nat} {b : List Int} {res : Rd MsgL} {f : Int} {w' : World} (hr : res = .error f) (hk : Kp2 w w' P V) : MgP w P V A c b res (.panicked (errCh f)) w' := by
  subst hr
  exact ⟨hk, rfl⟩
theorem MgP.ok {w w' : World} {P V q : Nat} {A : Option Addr} {c : Nat} {b : List Int} {res : Rd MsgL} {k who ver : Int} {xs : List K.S26} {r : List Int} {v : Value} (hr : res = .ok (⟨k, who, ver, xs⟩, r)) (h : MgS w w' P V A c b.length q k who ver v) (hl : ER w' w.heap.size v xs) (hq : b.length - r.length = q) : MgP w P V A c b res (.returned (.tuple #[])) w' := by
  subst hr
  subst hq
  exact ⟨h.kp, rfl, v, h.msg, hl, h.spot⟩
def msgR1.T : Bool × List (List Nat × List Nat) := (true, [([], []), ([0], [0]), ([1], [1]), ([], []), ([3], [3]), ([4, 2], [4]), ([], []), ([6], [6]), ([7, 5], [7]), ([0, 1, 2, 5, 8], []), ([9, 2, 8, 0, 1, 2, 5, 8], [2, 9]), ([0, 1, 2, 3, 4, 5, 8, 9, 10], []), ([11, 5, 10, 0, 1, 2, 3, 4, 5, 8, 9, 10], [5, 11]), ([0, 1, 2, 3, 4, 5, 6, 7, 8, 9, 10, 11, 12], []), ([13, 8, 12, 0, 1, 2, 3, 4, 5, 6, 7, 8, 9, 10, 11, 12], [8, 13])])
def msgR1.B : List Nat := [0, 1, 3, 0, 8, 31, 0, 64, 255, 511, 1023, 2047, 4095, 8191, 16383]
def msgR4.T : Bool × List (List Nat × List Nat) := (true, [([], []), ([0], [0]), ([], []), ([2], [2]), ([3], [3]), ([1, 4, 3], [1, 4]), ([0, 1, 2, 3, 4, 5], []), ([6, 5, 5, 0, 1, 2, 3, 4, 5], [5, 6])])
def msgR4.B : List Nat := [0, 1, 0, 4, 12, 31, 63, 127]
end Go.Proofs.Ytmbnjgnmblgjoaa.Man
end

-- GetMsg
section
/- codec.GetMsg of the given program: what it comes to, for all bytes. Printed by wip/tools/gen_getmsg.py. -/

namespace Go.Proofs.Ytmbnjgnmblgjoaa.Man
open Go.RowKit Go.Proofs.YtmbnjgnmblgjoaaW.PrintWords Go.Proofs.YtmbnjgnmblgjoaaW.PrintLast Go.Proofs.YtmbnjgnmblgjoaaW.PrintMore
set_option linter.unusedVariables false
set_option linter.unusedSimpArgs false
set_option maxRecDepth 100000

theorem MsgC.ne {w w1 : World} {E : Nat} {a0 a1 a2 : Int} {v : Value} (h : MsgC w E a0 a1 a2 v) (e : w1.heap[E]? = w.heap[E]?) : MsgC w1 E a0 a1 a2 v := e.trans h
/-- A message stored whole. -/
def setMsg (w : World) (E : Nat) (b0 b1 b2 : Int) (u : Value) : World :=
  (((w.setCell ⟨E, 0, none⟩ (.int .i64 b0)).setCell ⟨E, 1, none⟩ (.int .i64 b1)).setCell ⟨E, 2, none⟩ (.int .i64 b2)).setCell ⟨E, 3, none⟩ u
theorem MsgC.set {w : World} {E : Nat} {a0 a1 a2 : Int} {v : Value} (h : MsgC w E a0 a1 a2 v) (b0 b1 b2 : Int) (u : Value) : MsgC (setMsg w E b0 b1 b2 u) E b0 b1 b2 u :=
  (((h.put 0 (.int .i64 b0) rfl).put 1 (.int .i64 b1) rfl).put 2 (.int .i64 b2) rfl).put 3 u rfl
theorem ER.setMsg {w : World} {base E : Nat} {v : Value} {xs : List K.S26} (h : ER w base v xs) (hE : E < base) (b0 b1 b2 : Int) (u : Value) : ER (setMsg w E b0 b1 b2 u) base v xs :=
  (((h.set hE 0 _).set hE 1 _).set hE 2 _).set hE 3 _
/-- A message read: its value. -/
def MsgR (base : Nat) (m : MsgL) (r : Value) (w' : World) : Prop := ∃ u, r = .agg #[.int .i64 m.k, .int .i64 m.who, .int .i64 m.ver, u] ∧ ER w' base u m.l

end Go.Proofs.Ytmbnjgnmblgjoaa.Man
end

-- Alike
section
/- The statements' own comparisons of tokens and steps (layer 16) at equal arguments: true. -/

namespace Go.Proofs.Ytmbnjgnmblgjoaa.Man
open Go.RowKit Go.Proofs.YtmbnjgnmblgjoaaW.PrintWords Go.Proofs.YtmbnjgnmblgjoaaW.PrintLast Go.Proofs.YtmbnjgnmblgjoaaW.PrintMore
set_option linter.unusedVariables false
set_option linter.unusedSimpArgs false
set_option maxRecDepth 100000
attribute [local go_sem high] K.eqA111

/-- A step's cells. -/
abbrev stepV (x : K.S26) (A : Option Addr) (c : Nat) : Value := .agg #[.int .i64 x.f2.f0, .int .i64 x.f2.f1, .int .i64 x.f2.f2, .int .i64 x.f2.f3, .int .i64 x.f2.f4, .int .i64 x.f2.f5, .slice A x.f2.f6.length c, .int .i64 x.f2.f7]
end Go.Proofs.Ytmbnjgnmblgjoaa.Man
end

-- Entries
section
/- The statements' own comparison of entries and messages (layer 16) at equal arguments: true. Printed by wip/tools/gen_entries.py. -/

namespace Go.Proofs.Ytmbnjgnmblgjoaa.Man
open Go.RowKit Go.Proofs.YtmbnjgnmblgjoaaW.PrintWords Go.Proofs.YtmbnjgnmblgjoaaW.PrintLast Go.Proofs.YtmbnjgnmblgjoaaW.PrintMore
set_option linter.unusedVariables false
set_option linter.unusedSimpArgs false
set_option maxRecDepth 100000

/-- An entry's cells at a place. -/
def EC (w : World) (a : Addr) (x : K.S26) (A8 : Option Addr) (c8 : Nat) : Prop := w.cell? a = some (.int .i64 x.f0) ∧ w.cell? ⟨a.block, a.off + 1, none⟩ = some (.int .i64 x.f1) ∧ w.cell? ⟨a.block, a.off + 2, none⟩ = some (.int .i64 x.f2.f0) ∧ w.cell? ⟨a.block, a.off + 3, none⟩ = some (.int .i64 x.f2.f1) ∧ w.cell? ⟨a.block, a.off + 4, none⟩ = some (.int .i64 x.f2.f2) ∧ w.cell? ⟨a.block, a.off + 5, none⟩ = some (.int .i64 x.f2.f3) ∧ w.cell? ⟨a.block, a.off + 6, none⟩ = some (.int .i64 x.f2.f4) ∧ w.cell? ⟨a.block, a.off + 7, none⟩ = some (.int .i64 x.f2.f5) ∧ w.cell? ⟨a.block, a.off + 8, none⟩ = some (.slice A8 x.f2.f6.length c8) ∧ w.cell? ⟨a.block, a.off + 9, none⟩ = some (.int .i64 x.f2.f7)
theorem EC.below {w W : World} {a : Addr} {x : K.S26} {A8 : Option Addr} {c8 : Nat} (h : EC w a x A8 c8) (hb : Below w.heap.size w W) : EC W a x A8 c8 := by
  obtain ⟨h0, h1, h2, h3, h4, h5, h6, h7, h8, h9⟩ := h
  exact ⟨pw_cell_below hb h0, pw_cell_below hb h1, pw_cell_below hb h2, pw_cell_below hb h3, pw_cell_below hb h4, pw_cell_below hb h5, pw_cell_below hb h6, pw_cell_below hb h7, pw_cell_below hb h8, pw_cell_below hb h9⟩
theorem EC.at {w : World} {A : Option Addr} {n : Nat} {xs : List K.S26} (h : Kd.C K.k26 w A n xs) (i : Nat) (hi : i < n) : ∃ ad A8 c8, A = some ad ∧ EC w (ad.add (i * 10)) (K.rd_T26 xs i) A8 c8 ∧ (K.rd_T26 xs i).f2.f6.length ≤ c8 ∧ Kd.C K.k111 w A8 (K.rd_T26 xs i).f2.f6.length (K.rd_T26 xs i).f2.f6 := by
  obtain ⟨ad, A8, c8, e, h0, h1, h2, h3, h4, h5, h6, h7, h8, h9, hl, hc⟩ := K.at_T26 h (i : Int) (by omega) (by omega)
  rw [Int.toNat_natCast] at h0 h1 h2 h3 h4 h5 h6 h7 h8 h9
  exact ⟨ad, A8, c8, e, ⟨h0, h1, h2, h3, h4, h5, h6, h7, h8, h9⟩, hl, hc⟩
def entR6.T : Bool × List (List Nat × List Nat) := (true, [([], []), ([], []), ([0, 1], [0, 1]), ([2], [2]), ([3], [3]), ([], []), ([], []), ([5, 6], [5, 6]), ([7], [7]), ([8], [8]), ([4, 9], [4, 9]), ([10], [10]), ([11], [11]), ([11], [11]), ([12, 13, 11], [11, 12, 13]), ([14, 11], [11, 14]), ([15, 11], [11, 15]), ([11], [11]), ([11], [11]), ([17, 18, 11], [11, 17, 18]), ([19, 11], [11, 19]), ([20, 11], [11, 20]), ([16, 21, 11], [11, 16, 21]), ([11, 22], [11, 22]), ([23, 11], [23]), ([24], [24]), ([24], [24]), ([25, 26, 24], [24, 25, 26]), ([27, 24], [24, 27]), ([28, 24], [24, 28]), ([24], [24]), ([24], [24]), ([30, 31, 24], [24, 30, 31]), ([32, 24], [24, 32]), ([33, 24], [24, 33]), ([29, 34, 24, 24], [24, 29, 34]), ([35, 24], [24, 35]), ([24, 36], [24, 36])])
def entR6.B : List Nat := [0, 0, 3, 7, 15, 0, 0, 96, 224, 480, 1023, 2047, 4095, 4095, 16383, 32767, 65535, 4095, 4095, 397311, 921599, 1970175, 4194303, 8388607, 16777215, 33554431, 33554431, 134217727, 268435455, 536870911, 33554431, 33554431, 3254779903, 7549747199, 16139681791, 34359738367, 68719476735, 137438953471]
end Go.Proofs.Ytmbnjgnmblgjoaa.Man
end

-- BackMath
section
/- What is written is bytes; one entry that lies in a row. -/

namespace Go.Proofs.Ytmbnjgnmblgjoaa.Man
open Go.RowKit Go.Proofs.YtmbnjgnmblgjoaaW.PrintWords Go.Proofs.YtmbnjgnmblgjoaaW.PrintLast Go.Proofs.YtmbnjgnmblgjoaaW.PrintMore
set_option linter.unusedVariables false
set_option linter.unusedSimpArgs false
set_option maxRecDepth 100000

theorem bytes_app {a b : List Int} (ha : areBytesN a = true) (hb : areBytesN b = true) : areBytesN (a ++ b) = true := by
  unfold areBytesN at *
  rw [List.all_append, ha, hb]
  rfl
theorem bytes_flat {α : Type} (f : α → List Int) (h : ∀ x, areBytesN (f x) = true) : ∀ l : List α, areBytesN (l.flatMap f) = true
  | [] => rfl
  | x :: l => by rw [List.flatMap_cons]; exact bytes_app (h x) (bytes_flat f h l)
theorem tokB_bytes (x : K.S111) : areBytesN (tokB x) = true := by
  unfold tokB
  refine bytes_app (vb_bytes _) ?_
  split
  · exact vb_bytes _
  · split
    · exact vb_bytes _
    · rfl
theorem docB_bytes (l : List K.S111) : areBytesN (docB l) = true := bytes_app (vb_bytes _) (bytes_flat _ tokB_bytes l)
theorem entryB_bytes (x : K.S26) : areBytesN (entryB x) = true := by
  unfold entryB
  refine bytes_app (vbs_bytes _) ?_
  split
  · exact vbs_bytes _
  · split
    · exact bytes_app (vbs_bytes _) (docB_bytes _)
    · exact docB_bytes _
end Go.Proofs.Ytmbnjgnmblgjoaa.Man
end

-- OpensCodec
section
/- What tokens, entries, messages read as. -/


namespace Go.Proofs.Ytmbnjgnmblgjoaa.Open
open Go.RowKit Go.ChangeShapes Go.WideShapes Go.Proofs.YtmbnjgnmblgjoaaW.PrintWords
set_option linter.unusedVariables false
/-- Opens, OpensF, shut up in a structure: Lean does not look through them. -/
structure OP {α : Type} (P : Program) (t : TypeId) (K : Kd α) (bk : α → Nat) : Prop where
  out : Opens P t K (fun _ => True) bk
structure OF {α : Type} (P : Program) (o : Nat) (fs : List Field) (K : Kd α) (bk : α → Nat) : Prop where
  out : OpensF P o fs K (fun _ => True) bk
theorem OP.of {α : Type} {P : Program} {t : TypeId} {K : Kd α} {wf : α → Prop} {bk bk' : α → Nat} (h : Opens P t K wf bk) (hb : ∀ x, bk' x ≤ bk x) : OP P t K bk' := ⟨by
  intro H enc w fuel cs d ps hd hwt
  obtain ⟨x, k1, k2, k3⟩ := h enc w fuel cs d ps hd hwt
  exact ⟨x, k1, trivial, Nat.le_trans (hb x) k3⟩⟩
theorem OF.of {α : Type} {P : Program} {o : Nat} {fs : List Field} {K : Kd α} {wf : α → Prop} {bk bk' : α → Nat} (h : OpensF P o fs K wf bk) (hb : ∀ x, bk' x ≤ bk x) : OF P o fs K bk' := ⟨by
  intro H enc w n cs ys hl hy hwt
  obtain ⟨x, k1, k2, k3⟩ := h enc w n cs ys hl hy hwt
  exact ⟨x, k1, trivial, Nat.le_trans (hb x) k3⟩⟩
theorem op_int : OP Try.prog 3 (Kd.int .i64) (fun _ => 0) := .of (opens_int Try.underlying3) (fun _ => Nat.zero_le _)
theorem OF.cons {α β : Type} {P : Program} {o : Nat} {f : Field} {fs : List Field} {K : Kd α} {K' : Kd β} {bk : α → Nat} {bk' : β → Nat} (ho : f.offset = o) (hc : P.cellsOf f.type = K.sz) (h : OP P f.type K bk) (h' : OF P (o + K.sz) fs K' bk') : OF P o (f :: fs) (Kd.pair K K') (fun x => bk x.1 + bk' x.2) :=
  .of (opensF_cons ho hc h.out h'.out) (fun _ => Nat.le_refl _)
theorem OF.one {α : Type} {P : Program} {o : Nat} {f : Field} {K : Kd α} {bk : α → Nat} (ho : f.offset = o) (hc : P.cellsOf f.type = K.sz) (h : OP P f.type K bk) : OF P o [f] K bk := .of (opensF_one ho hc h.out) (fun _ => Nat.le_refl _)
theorem OP.struct {α β : Type} {P : Program} {t : TypeId} {fs : Array Field} {l : List Field} {K : Kd α} {bk : α → Nat} (f : β → α) (g : α → β) (hfg : ∀ a, f (g a) = a) (ht : P.underlying t = some (.struct fs)) (hl : fs.toList = l) (hc : P.cellsOf t = K.sz) (h : OF P 0 l K bk) : OP P t (Kd.iso K f) (fun x => bk (f x) + 1) :=
  .of (opens_iso f g hfg (opens_struct ht hl hc h.out)) (fun _ => Nat.le_refl _)
theorem OP.slice {α : Type} {P : Program} {t e : TypeId} {K : Kd α} {bk : α → Nat} (ht : P.underlying t = some (.slice e)) (hc : P.cellsOf e = K.sz) (h : OP P e K bk) : OP P t (Kd.slice e K) (fun xs => sum1 bk xs + 1) :=
  .of (opens_slice ht hc (B := P.bytesOf e) rfl h.out e) (fun _ => Nat.le_refl _)
theorem OP.le {α : Type} {P : Program} {t : TypeId} {K : Kd α} {bk bk' : α → Nat} (h : OP P t K bk) (hb : ∀ x, bk' x ≤ bk x) : OP P t K bk' := .of h.out hb
theorem OF.le {α : Type} {P : Program} {o : Nat} {fs : List Field} {K : Kd α} {bk bk' : α → Nat} (h : OF P o fs K bk) (hb : ∀ x, bk' x ≤ bk x) : OF P o fs K bk' := .of h.out hb
/-- One more field that is a whole number. -/
theorem fint {β : Type} {o : Nat} {f : Field} {fs : List Field} {K' : Kd β} {bk' : β → Nat} (ho : f.offset = o) (ht : f.type = 3) (hc : Try.prog.cellsOf f.type = 1) (h' : OF Try.prog (o + 1) fs K' bk') : OF Try.prog o (f :: fs) (Kd.pair (Kd.int .i64) K') (fun x => 0 + bk' x.2) :=
  OF.cons (K := Kd.int .i64) ho hc (by rw [ht]; exact op_int) h'
theorem fint1 {o : Nat} {f : Field} (ho : f.offset = o) (ht : f.type = 3) (hc : Try.prog.cellsOf f.type = 1) : OF Try.prog o [f] (Kd.int .i64) (fun _ => 0) := OF.one (K := Kd.int .i64) ho hc (by rw [ht]; exact op_int)

theorem op_tok : OP Try.prog 111 K.k111 (fun _ => 1) := by
  refine OP.le (OP.struct (bk := fun _ => 0) (fun x : K.S111 => (x.f0, x.f1, x.f2, x.f3)) (fun p => ⟨p.1, p.2.1, p.2.2.1, p.2.2.2⟩) (fun _ => rfl) (l := [_, _, _, _]) Try.underlying111 rfl (by kernel_rfl) ?h) (fun _ => by omega)
  case h => exact OF.le (fint rfl rfl (by kernel_rfl) (fint rfl rfl (by kernel_rfl) (fint rfl rfl (by kernel_rfl) (fint1 rfl rfl (by kernel_rfl))))) (fun _ => by (try simp only); omega)
theorem op_toks : OP Try.prog 22 (Kd.slice 111 K.k111) (fun xs => xs.length) := (OP.slice Try.underlying22 (by kernel_rfl) op_tok).le (fun xs => by rw [sum1_const]; omega)
theorem op_step : OP Try.prog 24 K.k24 (fun x => x.f6.length + 1) := by
  refine OP.le (OP.struct (bk := fun p => p.2.2.2.2.2.2.1.length) (fun x : K.S24 => (x.f0, x.f1, x.f2, x.f3, x.f4, x.f5, x.f6, x.f7)) (fun p => ⟨p.1, p.2.1, p.2.2.1, p.2.2.2.1, p.2.2.2.2.1, p.2.2.2.2.2.1, p.2.2.2.2.2.2.1, p.2.2.2.2.2.2.2⟩) (fun _ => rfl) (l := [_, _, _, _, _, _, _, _]) Try.underlying24 rfl (by kernel_rfl) ?h) (fun x => ?b)
  case h => exact OF.le (fint rfl rfl (by kernel_rfl) (fint rfl rfl (by kernel_rfl) (fint rfl rfl (by kernel_rfl) (fint rfl rfl (by kernel_rfl) (fint rfl rfl (by kernel_rfl) (fint rfl rfl (by kernel_rfl) (OF.cons (K := Kd.slice 111 K.k111) rfl (by kernel_rfl) op_toks (fint1 rfl rfl (by kernel_rfl))))))))) (fun _ => by (try simp only); omega)
  case b => simp only; omega
theorem op_entry : OP Try.prog 26 K.k26 (fun x => x.f2.f6.length + 1) := by
  refine OP.le (OP.struct (bk := fun p => p.2.2.f6.length + 1) (fun x : K.S26 => (x.f0, x.f1, x.f2)) (fun p => ⟨p.1, p.2.1, p.2.2⟩) (fun _ => rfl) (l := [_, _, _]) Try.underlying26 rfl (by kernel_rfl) ?h) (fun x => ?b)
  case h => exact OF.le (fint rfl rfl (by kernel_rfl) (fint rfl rfl (by kernel_rfl) (OF.one (K := K.k24) rfl (by kernel_rfl) op_step))) (fun _ => by (try simp only); omega)
  case b => simp only; omega
/-- The kind of messages. -/
def kMsg : Kd Man.MsgL := Kd.iso (Kd.pair (Kd.int .i64) (Kd.pair (Kd.int .i64) (Kd.pair (Kd.int .i64) (Kd.slice 26 K.k26)))) (fun m : Man.MsgL => (m.k, m.who, m.ver, m.l))
theorem opens_toks : Opens Try.prog 22 (Kd.slice 111 K.k111) (fun _ => True) (fun xs => xs.length) := op_toks.out
theorem opens_entry : Opens Try.prog 26 K.k26 (fun _ => True) (fun x => x.f2.f6.length + 1) := op_entry.out
end Go.Proofs.Ytmbnjgnmblgjoaa.Open
end

-- Back
section
/- The statement CodecBack, stepped through. No condition. Printed by wip/tools/gen_back.py. -/


namespace Go.Proofs.Ytmbnjgnmblgjoaa.Man
open Go.RowKit Go.Proofs.YtmbnjgnmblgjoaaW.PrintWords Go.Proofs.YtmbnjgnmblgjoaaW.PrintLast Go.Proofs.YtmbnjgnmblgjoaaW.PrintMore
set_option linter.unusedVariables false
set_option linter.unusedSimpArgs false
set_option maxRecDepth 100000

theorem EntAt.below {w W : World} {P c : Nat} {x : K.S26} {A : Option Addr} (h : EntAt w P x A c) (hb : Below w.heap.size w W) : EntAt W P x A c := (hb.block _ h.lt).trans h
theorem MsgAt.below {w W : World} {P n c : Nat} {k who ver : Int} {A : Option Addr} (h : MsgAt w P k who ver A n c) (hb : Below w.heap.size w W) : MsgAt W P k who ver A n c := (hb.block _ h.lt).trans h
theorem EntAt.ne {w W : World} {P c : Nat} {x : K.S26} {A : Option Addr} (h : EntAt w P x A c) (e : W.heap[P]? = w.heap[P]?) : EntAt W P x A c := e.trans h
theorem MsgAt.ne {w W : World} {P n c : Nat} {k who ver : Int} {A : Option Addr} (h : MsgAt w P k who ver A n c) (e : W.heap[P]? = w.heap[P]?) : MsgAt W P k who ver A n c := e.trans h
end Go.Proofs.Ytmbnjgnmblgjoaa.Man
end

-- One
section
/- The statement CodecOne, stepped through. No condition. Printed by wip/tools/gen_one.py. -/

namespace Go.Proofs.Ytmbnjgnmblgjoaa.Man
open Go.RowKit Go.Proofs.YtmbnjgnmblgjoaaW.PrintWords Go.Proofs.YtmbnjgnmblgjoaaW.PrintLast Go.Proofs.YtmbnjgnmblgjoaaW.PrintMore
set_option linter.unusedVariables false
set_option linter.unusedSimpArgs false
set_option maxRecDepth 100000

end Go.Proofs.Ytmbnjgnmblgjoaa.Man
end

-- Feed
section
/- Feed of a chunk that is open: what it tells, and what waits then. -/

namespace Go.Proofs.Ytmbnjgnmblgjoaa.Man
open Go.RowKit Go.Proofs.YtmbnjgnmblgjoaaW.PrintWords Go.Proofs.YtmbnjgnmblgjoaaW.PrintLast Go.Proofs.YtmbnjgnmblgjoaaW.PrintMore
set_option linter.unusedVariables false
set_option linter.unusedSimpArgs false
set_option maxRecDepth 100000

/-- The frames from a place on, up to the first that is none: the frames, the place, why. -/
def eat : Nat → List Int → Int → List (List Int) × Int × Int
  | 0, _, at_ => ([], at_, 3)
  | k + 1, ws, at_ => if (openF ws at_).2.2 = 0 then ((openF ws at_).1 :: (eat k ws (openF ws at_).2.1).1, (eat k ws (openF ws at_).2.1).2) else ([], at_, (openF ws at_).2.2)
def eatAll (ws : List Int) : List (List Int) × Int × Int := eat (ws.length + 1) ws 0
def feedE (ws : List Int) : Int := if (eatAll ws).2.2 = 3 then 0 else (eatAll ws).2.2
def feedH (ws : List Int) : Int := if (eatAll ws).2.2 = 3 then 1 else 2
def feedW (ws : List Int) : List Int := if (eatAll ws).2.2 = 3 then ws.drop (eatAll ws).2.1.toNat else []

/-- Rows of bytes, told. -/
abbrev OUT (w : World) (base : Nat) (v : Value) (os : List (List Int)) : Prop := Kd.R (Kd.slice 5 (Kd.int .u8)) 27 w base (fun _ => True) v os
theorem info_row : (Try.prog.info? 27).map (fun i => (i.zero, i.size, i.bytes)) = some (some (.slice none 0 0), 1, 24) := by kernel_rfl
theorem OUT.push_ev {ops : Array Oper} {rest : List Oper} {o : Oper} {a : Act} {Q : Exit → Act → World → Prop} {w : World} {base : Nat} {v : Value} {os : List (List Int)} {x : List Int} {xv : Value}
    (h : OUT w base v os) (hx0 : Kd.R (Kd.int .u8) 5 w base (fun k => some k ≠ v.ownBlock) xv x) (hgd : o.guard = none) (s xo : Operand) (ho : o.op = .call { callee := .builtin .append, args := #[s, xo], argTypes := #[41, 41] })
    (hs : a.eval s = v) (hx : a.eval xo = .slice (some ⟨w.heap.size, 0, none⟩) 1 1) (hbase : base ≤ w.heap.size) (hl : os.length + 1 ≤ 4194304)
    (k : ∀ v1 w1, OUT w1 base v1 (os ++ [x]) → Below base w w1 → w.grownBy w1 v.ownBlock → wpList Try.prog ops Q rest (a.put o.dst v1) w1) : wpList Try.prog ops Q (o :: rest) a (w.alloc (.cells #[xv] 27)) :=
  Kd.R_append (Kd.slice 5 (Kd.int .u8)) (w0 := w) base hgd s xo 41 27 (.slice none 0 0) 24 ho Try.underlying41 info_row rfl (by decide) (by omega) v os x [xv] (fun _ => True) (fun k => some k ≠ v.ownBlock) hs hx ⟨xv, rfl, hx0⟩ (fun _ h => ⟨trivial, h⟩) (fun _ _ => trivial) h (Below.refl _ _) hbase (by omega)
    (fun v1 w1 h1 h2 h3 h4 => k v1 w1 h1 h2 h3)

end Go.Proofs.Ytmbnjgnmblgjoaa.Man
end

-- EatMath
section
/- Frames in a row of bytes: what more bytes behind it, and what fewer ahead, turn. Plain: no program's run. -/

namespace Go.Proofs.Ytmbnjgnmblgjoaa.Man
open Go.RowKit
set_option linter.unusedVariables false

end Go.Proofs.Ytmbnjgnmblgjoaa.Man
end

-- FrameMath
section
/- Frames: written, read; cut short; one way to write. Plain: no program's run. -/


namespace Go.Proofs.Ytmbnjgnmblgjoaa.Man
open Go.RowKit
set_option linter.unusedVariables false

theorem be_length (s : Int) : (be s).length = 4 := rfl
theorem be4_be (s : Int) (h0 : 0 ≤ s) (h1 : s < 4294967296) : be4 (be s) = s := by
  unfold be4 be
  simp only [List.getD_cons_zero, List.getD_cons_succ]
  omega
theorem be_bytes (s : Int) (h0 : 0 ≤ s) (h1 : s < 4294967296) : areBytesN (be s) = true := by
  unfold areBytesN be
  simp only [List.all_cons, List.all_nil, Bool.and_true, Bool.and_eq_true, decide_eq_true_eq]
  omega
theorem frameF_bytes (b : List Int) (hB : areBytesN b = true) : areBytesN (frameF b) = true :=
  areBytesN_append (areBytesN_append (vb_bytes _) hB) (be_bytes _ (sumF_range b).1 (sumF_range b).2)
theorem frameF_length (b : List Int) : (frameF b).length = (vb b.length).length + b.length + 4 := by
  unfold frameF; rw [List.length_append, List.length_append, be_length]

/-- A head of vb n is read. -/
theorem getF_vb (n : Nat) (hn : n < 18446744073709551616) (rest : List Int) : getF (vb n ++ rest) 0 = ((n : Int), ((vb n).length : Int), 0) := by
  unfold getF
  rw [if_neg (by rw [List.length_append]; omega)]
  have := getL_vb n 0 0 rest (.inl rfl) (by omega) (by omega)
  simp only [Int.toNat_zero, List.drop_zero, this]
  simp
theorem mid_parts (x y z : List Int) : mid (x ++ y ++ z) x.length ((x.length : Int) + y.length) = y := by
  unfold mid
  rw [show ((x.length : Int) + y.length).toNat = (x ++ y).length by rw [List.length_append]; omega, List.take_left, Int.toNat_natCast, List.drop_left]

theorem openF_frame (b rest : List Int) (hB : areBytesN b = true) (hl : b.length ≤ 65536) : openF (frameF b ++ rest) 0 = (b, ((frameF b).length : Int), 0) := by
  have hs := sumF_range b
  have e : frameF b ++ rest = vb b.length ++ (b ++ (be (sumF b) ++ rest)) := by unfold frameF; simp
  have hg := getF_vb b.length (by omega) (b ++ (be (sumF b) ++ rest))
  have hlen := frameF_length b
  unfold openF
  rw [e, hg]
  simp only
  rw [if_neg (by simp), if_neg (by omega), if_neg (by simp only [List.length_append, be_length]; omega)]
  have m1 : mid (vb b.length ++ (b ++ (be (sumF b) ++ rest))) ((vb b.length).length : Int) (((vb b.length).length : Int) + (b.length : Int)) = b := by
    rw [← List.append_assoc]; exact mid_parts _ _ _
  have m2 : mid (vb b.length ++ (b ++ (be (sumF b) ++ rest))) (((vb b.length).length : Int) + (b.length : Int)) (((vb b.length).length : Int) + (b.length : Int) + 4) = be (sumF b) := by
    have := mid_parts (vb b.length ++ b) (be (sumF b)) rest
    rw [be_length, List.length_append, Int.natCast_add] at this
    simp only [List.append_assoc] at this ⊢
    exact this
  rw [m1, m2, be4_be _ hs.1 hs.2, if_neg (by simp), hlen]
  simp
/-! ### Frames in a row -/
def rowOfFrames (fs : List (List Int)) : List Int := fs.flatMap frameF
end Go.Proofs.Ytmbnjgnmblgjoaa.Man
end

-- Log
section
/- A log's frames, over lists: what bytes hold of whole frames of entries, and where the frames end. Plain: no program's run. -/


namespace Go.Proofs.Ytmbnjgnmblgjoaa.Man
open Go.RowKit Go.Proofs.YtmbnjgnmblgjoaaW.PrintWords Go.Proofs.YtmbnjgnmblgjoaaW.PrintLast Go.Proofs.YtmbnjgnmblgjoaaW.PrintMore
set_option linter.unusedVariables false
set_option linter.unusedSimpArgs false

/-- An entry's frame. -/
def entF (x : K.S26) : List Int := frameF (entryB x)
/-- An entry that may lie in a log. -/
def Fine (x : K.S26) : Prop := entryE x = 0 ∧ (entryB x).length ≤ 65536
def flatE (xs : List K.S26) : List Int := xs.flatMap entF
/-- The places behind the frames, the first of which begins at p. -/
def endsE (p : Nat) : List K.S26 → List Int
  | [] => []
  | x :: xs => ((p + (entF x).length : Nat) : Int) :: endsE (p + (entF x).length) xs
/-- No whole frame of an entry stands at the head. -/
def Stop (r : List Int) : Prop := (openF r 0).2.2 ≠ 0 ∨ (getEntryF (openF r 0).1).2 ≠ 0
structure LogOf (b : List Int) (xs : List K.S26) (r : List Int) : Prop where
  eq : b = flatE xs ++ r
  fine : ∀ x ∈ xs, Fine x
  stop : Stop r

theorem LogOf.len {b : List Int} {xs : List K.S26} {r : List Int} (h : LogOf b xs r) : (flatE xs).length ≤ b.length := by rw [h.eq, List.length_append]; omega
theorem LogOf.take {b : List Int} {xs : List K.S26} {r : List Int} (h : LogOf b xs r) : b.take (flatE xs).length = flatE xs := by rw [h.eq, List.take_left]
end Go.Proofs.Ytmbnjgnmblgjoaa.Man
end

-- Flat
section
/- flat.Check: what it comes to, over lists. -/


namespace Go.Proofs.Ytmbnjgnmblgjoaa.Man
open Go.RowKit Go.Proofs.YtmbnjgnmblgjoaaW.PrintWords Go.Proofs.YtmbnjgnmblgjoaaW.PrintLast Go.Proofs.YtmbnjgnmblgjoaaW.PrintMore
set_option linter.unusedVariables false
set_option linter.unusedSimpArgs false
set_option maxRecDepth 100000

theorem right_is (x : K.S111) (w : World) : Calls Try.prog 75 #[.agg #[.int .i64 x.f0, .int .i64 x.f1, .int .i64 x.f2, .int .i64 x.f3]] w fun e w' => e = .returned (.bool (rightB x)) ∧ Below w.heap.size w w' :=
  K.flat_Right.calls _ _ _ _ (rightB x) w (right_f x)
/-- What tokens come to, n being open. -/
def flatLoop : List K.S111 → Nat → Int
  | [], n => if 0 < n then 3 else 0
  | t :: ts, n => if rightB t = false then 4 else if t.f0 = 2 ∧ n = 0 then 4 else if t.f0 = 1 ∧ n = 32 then 8 else if t.f0 = 1 then flatLoop ts (n + 1) else if t.f0 = 2 then flatLoop ts (n - 1) else flatLoop ts n
def flatC (l : List K.S111) : Int := if 2048 < l.length then 2 else flatLoop l 0
def ArrAt (w : World) (B : Nat) : Prop := ∃ arr : Array Value, arr.size = 32 ∧ w.heap[B]? = some (.cells arr 197 (0, 0))
theorem ArrAt.lt {w : World} {B : Nat} (h : ArrAt w B) : B < w.heap.size := by obtain ⟨_, _, h⟩ := h; exact (Array.getElem?_eq_some_iff.1 h).1
theorem ArrAt.below {w w1 : World} {B : Nat} (h : ArrAt w B) (hb : Below w.heap.size w w1) : ArrAt w1 B := by
  have hl := h.lt
  obtain ⟨arr, h1, h2⟩ := h
  exact ⟨arr, h1, (hb.block _ hl).trans h2⟩
theorem ArrAt.cell {w : World} {B : Nat} (h : ArrAt w B) (n : Nat) (hn : n < 32) : ∃ v, w.cell? ⟨B, n, none⟩ = some v := by
  obtain ⟨arr, h1, h2⟩ := h
  exact ⟨arr[n], by simp [World.cell?, h2, h1, hn]⟩
theorem ArrAt.f {w : World} {B : Nat} (h : ArrAt w B) (n : Nat) : w.frozen? ⟨B, n, none⟩ = false := by
  obtain ⟨arr, h1, h2⟩ := h
  simp [World.frozen?, h2]
theorem ArrAt.set {w : World} {B : Nat} (h : ArrAt w B) (n : Nat) (v : Value) : ArrAt (w.setCell ⟨B, n, none⟩ v) B := by
  obtain ⟨arr, h1, h2⟩ := h
  refine ⟨arr.setIfInBounds n v, by simp [h1], ?_⟩
  unfold World.setCell
  simp [Array.getElem?_modify, h2]
def TokB (w : World) (P : Nat) (x : K.S111) : Prop := w.heap[P]? = some (.cells #[.int .i64 x.f0, .int .i64 x.f1, .int .i64 x.f2, .int .i64 x.f3] 111 (0, 0))
theorem TokB.c0 {w : World} {P : Nat} {x : K.S111} (h : TokB w P x) : w.cell? ⟨P, 0, none⟩ = some (.int .i64 x.f0) := by simp [World.cell?, show w.heap[P]? = _ from h]

set_option maxHeartbeats 16000000 in
theorem fcheck_is (A : Option Addr) (c : Nat) (l : List K.S111) (w : World) (hr : Kd.C K.k111 w A l.length l) :
    Calls Try.prog 96 #[.slice A l.length c] w fun e w' => ∃ i, e = .returned (.tuple #[.int .i64 i, .int .i64 (flatC l)]) ∧ Below w.heap.size w w' := by
  have hl63 : l.length ≤ 9223372036854775807 := hr.2.1
  have HC := Lib.hid hr
  clear hr
  obtain ⟨E, hE⟩ : ∃ E, flatC l = E := ⟨_, rfl⟩
  rw [hE]
  unfold flatC at hE
  by_cases hbig : 2048 < l.length
  · rw [if_pos hbig] at hE
    subst hE
    go_enter Try.func96, Try.ntmps96
    go_wp2
    go_ret2
    exact ⟨_, rfl, Below.refl _ _⟩
  · rw [if_neg hbig] at hE
    have hl : l.length ≤ 2048 := by omega
    have HE := Lib.hid hE
    clear hE hbig
    go_enter Try.func96, Try.ntmps96
    go_upto_region 4 with (fail)
    obtain ⟨w1, hw1⟩ : ∃ w1, w.alloc (.cells #[.int .i64 0, .int .i64 0, .int .i64 0, .int .i64 0, .int .i64 0, .int .i64 0, .int .i64 0, .int .i64 0, .int .i64 0, .int .i64 0, .int .i64 0, .int .i64 0, .int .i64 0, .int .i64 0, .int .i64 0, .int .i64 0, .int .i64 0, .int .i64 0, .int .i64 0, .int .i64 0, .int .i64 0, .int .i64 0, .int .i64 0, .int .i64 0, .int .i64 0, .int .i64 0, .int .i64 0, .int .i64 0, .int .i64 0, .int .i64 0, .int .i64 0, .int .i64 0] 197) = w1 := ⟨_, rfl⟩
    have HA : Hid (ArrAt w1 w.heap.size) := Lib.hid (by rw [← hw1]; exact ⟨_, rfl, World.alloc_heap_new w _⟩)
    have HB : Hid (Below w.heap.size w w1) := Lib.hid (by rw [← hw1]; exact (Below.refl _ _).alloc (Nat.le_refl _) _)
    rw [hw1]
    clear hw1
    go_wp2
    go_loopg [5, 13] l.length (fun g s5 s13 wr => ∃ i n : Nat, s13 = .int .i64 i ∧ s5 = .int .i64 n ∧ i ≤ l.length ∧ n ≤ 32 ∧ g = l.length - i ∧ Hid (flatLoop (l.drop i) n = E) ∧ Hid (ArrAt wr w.heap.size) ∧ Hid (Below w.heap.size w wr))
    case atStart => exact ⟨0, 0, rfl, rfl, Nat.zero_le _, Nat.zero_le _, rfl, Lib.hid (by rw [List.drop_zero]; exact HE.out), HA, HB⟩
    case round =>
      clear HA HB HE
      obtain ⟨i, n, rfl, rfl, hi, hn, hg, HE, HA, HB⟩ := hrel
      by_cases hlt : i < l.length
      · obtain ⟨ad, ea, a0, a1, a2, a3⟩ := K.at_T111 (Kd.C_below HC.out HB.out) (i : Int) (by omega) (by omega)
        subst ea
        rw [rd_nat l i hlt, Int.toNat_natCast] at a0 a1 a2 a3
        have hdr : l.drop i = l[i] :: l.drop (i + 1) := List.drop_eq_getElem_cons hlt
        have hE := HE.out
        rw [hdr] at hE
        unfold flatLoop at hE
        generalize l[i] = x at hE a0 a1 a2 a3
        obtain ⟨wt, hwt⟩ : ∃ wt, wr.alloc (.cells #[.int .i64 x.f0, .int .i64 x.f1, .int .i64 x.f2, .int .i64 x.f3] 111) = wt := ⟨_, rfl⟩
        have hbt : Below wr.heap.size wr wt := by rw [← hwt]; exact (Below.refl _ _).alloc (Nat.le_refl _) _
        have hkt : TokB wt wr.heap.size x := by rw [← hwt]; exact World.alloc_heap_new wr _
        have hsz : wt.heap.size = wr.heap.size + 1 := by rw [← hwt]; exact World.size_alloc _ _
        have HO : Hid (Calls Try.prog 75 #[.agg #[.int .i64 x.f0, .int .i64 x.f1, .int .i64 x.f2, .int .i64 x.f3]] wt fun e w2 => e = .returned (.bool (rightB x)) ∧ w2.cell? ⟨wr.heap.size, 0, none⟩ = some (.int .i64 x.f0) ∧ ArrAt w2 w.heap.size ∧ Below w.heap.size w w2) := Lib.hid (by
          refine (right_is x wt).mono ?_
          rintro e w2 ⟨rfl, hb⟩
          refine ⟨rfl, ?_, (HA.out.below hbt).below hb, (HB.out.trans (hbt.mono HB.out.size)).trans (hb.mono (by have := HB.out.size; omega))⟩
          have : TokB w2 wr.heap.size x := (hb.block _ (by omega)).trans hkt
          exact this.c0)
        rw [← hwt] at HO
        have HN : Hid (∀ n', flatLoop (l.drop (i + 1)) n' = flatLoop (l.drop (i + 1)) n') := Lib.hid (fun _ => rfl)
        have HE1 := Lib.hid hE
        clear hE HE hdr hwt hbt hkt hsz HA HB HN
        generalize rightB x = rx at HO HE1
        obtain ⟨k, t, m, d⟩ := x
        simp only at HO HE1 a0 a1 a2 a3
        cases rx with
        | false =>
          have hE := HE1.out
          rw [if_pos rfl] at hE
          subst hE
          clear HE1
          go_wp2_with (go_at_call 75; refine HO.out.mono ?_; rintro e w2 ⟨rfl, d0, ha, hb⟩; have HA2 := Lib.hid ha; have HB2 := Lib.hid hb; clear ha hb)
          go_ret2
          exact ⟨_, rfl, HB2.out⟩
        | true =>
          have HE2 := Lib.hid ((if_neg (by decide)).symm.trans HE1.out)
          clear HE1
          go_upto_region 9 with (go_at_call 75; refine HO.out.mono ?_; rintro e w2 ⟨rfl, d0, ha, hb⟩; have HA2 := Lib.hid ha; have HB2 := Lib.hid hb; clear ha hb)
          clear a0 a1 a2 a3 HO
          by_cases h2 : k = 2
          · subst h2
            by_cases h0 : n = 0
            · subst h0
              have hE := HE2.out
              rw [if_pos ⟨rfl, rfl⟩] at hE
              subst hE
              clear HE2
              go_wp2
              go_ret2
              exact ⟨_, rfl, HB2.out⟩
            · have hE := HE2.out
              rw [if_neg (fun h => h0 h.2), if_neg (by simp), if_neg (by decide), if_pos rfl] at hE
              have HE3 := Lib.hid hE
              clear hE HE2
              have hw : IntKind.i64.wrap ((n : Int) - 1) = ((n - 1 : Nat) : Int) := by rw [IntKind.wrap_i64]; omega
              go_wp2
              go_roundg (l.length - (i + 1))
              case measure => omega
              case rel => exact ⟨i + 1, n - 1, by go_num, by rw [← hw], by omega, by omega, rfl, HE3, HA2, HB2⟩
          · by_cases h1 : k = 1
            · subst h1
              by_cases h32 : n = 32
              · subst h32
                have hE := HE2.out
                rw [if_neg (by simp), if_pos ⟨rfl, rfl⟩] at hE
                subst hE
                clear HE2
                go_wp2
                go_ret2
                exact ⟨_, rfl, HB2.out⟩
              · have hE := HE2.out
                rw [if_neg (by simp), if_neg (fun h => h32 h.2), if_pos rfl] at hE
                have HE3 := Lib.hid hE
                clear hE HE2
                obtain ⟨v, hv⟩ := HA2.out.cell n (by omega)
                have hf := HA2.out.f n
                have HA3 := Lib.hid (HA2.out.set n (.int .i64 i))
                have HB3 := Lib.hid (HB2.out.setCell (p := ⟨w.heap.size, n, none⟩) (Nat.le_refl _) (.int .i64 i))
                go_wp2
                go_roundg (l.length - (i + 1))
                case measure => omega
                case rel => exact ⟨i + 1, n + 1, by go_num, by go_num, by omega, by omega, rfl, HE3, HA3, HB3⟩
            · have hE := HE2.out
              rw [if_neg (fun h => h2 h.1), if_neg (fun h => h1 h.1), if_neg h1, if_neg h2] at hE
              have HE3 := Lib.hid hE
              clear hE HE2
              go_wp2
              go_roundg (l.length - (i + 1))
              case measure => omega
              case rel => exact ⟨i + 1, n, by go_num, rfl, by omega, by omega, rfl, HE3, HA2, HB2⟩
      · obtain rfl : i = l.length := by omega
        have hE := HE.out
        rw [List.drop_length] at hE
        unfold flatLoop at hE
        by_cases h0 : 0 < n
        · rw [if_pos h0] at hE
          subst hE
          clear HE
          go_wp2
          go_ret2
          exact ⟨_, rfl, HB.out⟩
        · rw [if_neg h0] at hE
          subst hE
          clear HE
          obtain rfl : n = 0 := by omega
          go_wp2
          go_ret2
          exact ⟨_, rfl, HB.out⟩
end Go.Proofs.Ytmbnjgnmblgjoaa.Man
end

-- TokRow
section
/- Tokens' cells: rows of four cells an element; copy; step.tokens: lists joined into an own one. -/


namespace Go.Proofs.Ytmbnjgnmblgjoaa.Man
open Go.RowKit Go.Proofs.YtmbnjgnmblgjoaaW.PrintWords Go.Proofs.YtmbnjgnmblgjoaaW.PrintLast Go.Proofs.YtmbnjgnmblgjoaaW.PrintMore
set_option linter.unusedVariables false
set_option linter.unusedSimpArgs false
set_option maxRecDepth 100000

theorem run_copy4 (w : World) (dT sT ty elem : TypeId) (hu : Try.prog.underlying dT = some (.slice elem)) (hsz : (Try.prog.info? elem).map (·.size) = some 4)
    (g off dLen dCap sLen sCap : Nat) (dp sp : Option Addr) (cur : Array Value) (t : TypeId) (hg : w.heap[g]? = some (.cells cur t (0, 0))) (cs : List Value) (hn : cs.length = sLen * 4) (hle : sLen ≤ dLen)
    (hpos : 0 < sLen → dp = some ⟨g, off, none⟩ ∧ ∃ ad, sp = some ad ∧ ∀ j v, cs[j]? = some v → w.cell? (ad.add j) = some v)
    (hfit : off + cs.length ≤ cur.size) (h1 : ∀ v ∈ cs, v.oneCell' = true) :
    (Builtin.copy_ #[dT, sT] ty #[.slice dp dLen dCap, .slice sp sLen sCap]).run Try.prog w = .ok (goInt sLen) (w.setRow g (splice cur.toList off cs).toArray) := by
  obtain ⟨i, hq, hi⟩ : ∃ i, Try.prog.info? elem = some i ∧ i.size = 4 := by
    cases hq : Try.prog.info? elem with
    | none => simp [hq] at hsz
    | some i => exact ⟨i, rfl, by simpa [hq] using hsz⟩
  have hmin : Nat.min sLen dLen = sLen := Nat.min_eq_left hle
  rcases Nat.eq_zero_or_pos sLen with h0 | h0
  · subst h0
    obtain rfl : cs = [] := List.eq_nil_of_length_eq_zero (by omega)
    have hs : w.setRow g (splice cur.toList off []).toArray = w := by
      have : (splice cur.toList off ([] : List Value)).toArray = cur := by simp [splice]
      rw [this]
      exact setRow_self w g cur t (0, 0) hg
    rw [hs]
    have hl : ∀ a : Addr, (loadCells a 0).run Try.prog w = .ok #[] w := fun a => run_loadCells_list (P := Try.prog) w a [] (by simp)
    cases sp <;> cases dp <;> simp [Builtin.copy_, run_underlying hu, Builtin.lenOf, Builtin.firstCells, sizeOf, typeInfo, hq, hi, hl, storeCells, hmin]
  · obtain ⟨rfl, ad, rfl, hsrc⟩ := hpos h0
    have hl := run_loadCells_list (P := Try.prog) w ad cs hsrc
    have hst := run_storeCells_at Try.prog g off t cs 0 cur w hg (by simpa using hfit) h1
    rw [Nat.add_zero] at hst
    simp [Builtin.copy_, run_underlying hu, Builtin.lenOf, Builtin.firstCells, sizeOf, typeInfo, hq, hi, ← hn, hl, hst, hmin, splice]

theorem wpList_copy4 {w : World} {ops : Array Oper} {rest : List Oper} {o : Oper} {a : Act} {Q : Exit → Act → World → Prop} (hgd : o.guard = none) (d s : Operand) (dT sT : TypeId)
    (ho : o.op = .call { callee := .builtin .copy, args := #[d, s], argTypes := #[dT, sT] }) (elem : TypeId) (hu : Try.prog.underlying dT = some (.slice elem)) (hsz : (Try.prog.info? elem).map (·.size) = some 4)
    (dp sp : Option Addr) (dLen dCap sLen sCap : Nat) (hd : a.eval d = .slice dp dLen dCap) (hs : a.eval s = .slice sp sLen sCap)
    (g off : Nat) (cur : List Value) (t : TypeId) (hg : w.heap[g]? = some (.cells cur.toArray t (0, 0))) (cs : List Value) (hn : cs.length = sLen * 4) (hle : sLen ≤ dLen)
    (hpos : 0 < sLen → dp = some ⟨g, off, none⟩ ∧ ∃ ad, sp = some ad ∧ ∀ j v, cs[j]? = some v → w.cell? (ad.add j) = some v)
    (hfit : off + cs.length ≤ cur.length) (h1 : ∀ v ∈ cs, v.oneCell' = true) (B : Nat) (w0 : World) (hb : Below B w0 w) (hBg : B ≤ g)
    (h : ∀ w', Hid (w'.heap[g]? = some (.cells (splice cur off cs).toArray t (0, 0))) → Below B w0 w' → wpList Try.prog ops Q rest (a.put o.dst (goInt sLen)) w') :
    wpList Try.prog ops Q (o :: rest) a w := by
  refine wpList_plain hgd fun K hK => ?_
  have hrun := run_copy4 w dT sT o.type elem hu hsz g off dLen dCap sLen sCap dp sp cur.toArray t hg cs hn hle hpos (by simpa using hfit) h1
  unfold Oper.wp
  simp [execOp, ho, resolve, invoke, builtin, hd, hs, hrun, Result.andThen]
  refine hK _ _ (h _ (show _ = _ from ?_) (below_setRow hb hBg _))
  exact setRow_heap w g _ _ t _ hg

/-- A token's cells; tokens'. -/
def tokV (x : K.S111) : List Value := [.int .i64 x.f0, .int .i64 x.f1, .int .i64 x.f2, .int .i64 x.f3]
def toksV (l : List K.S111) : List Value := l.flatMap tokV
theorem toksV_length (l : List K.S111) : (toksV l).length = l.length * 4 := by
  induction l with
  | nil => rfl
  | cons x l ih => simp only [toksV, List.flatMap_cons, List.length_append, List.length_cons] at ih ⊢; rw [ih]; simp [tokV]; omega
theorem toksV_append (a b : List K.S111) : toksV (a ++ b) = toksV a ++ toksV b := List.flatMap_append
theorem toksV_one (l : List K.S111) : ∀ u ∈ toksV l, u.oneCell' = true := by
  intro u hu
  simp only [toksV, List.mem_flatMap] at hu
  obtain ⟨x, _, hx⟩ := hu
  simp only [tokV, List.mem_cons, List.not_mem_nil, or_false] at hx
  rcases hx with rfl | rfl | rfl | rfl <;> rfl
theorem toksV_get (l : List K.S111) (j i : Nat) (hi : i < 4) : (toksV l)[j * 4 + i]? = (l[j]?).bind fun x => (tokV x)[i]? := by
  induction l generalizing j with
  | nil => simp [toksV]
  | cons x l ih =>
    show (tokV x ++ toksV l)[j * 4 + i]? = _
    cases j with
    | zero => rw [Nat.zero_mul, Nat.zero_add, List.getElem?_append_left (by simpa [tokV] using hi)]; rfl
    | succ j =>
      rw [List.getElem?_append_right (by simp [tokV]; omega)]
      have : (j + 1) * 4 + i - (tokV x).length = j * 4 + i := by simp [tokV]; omega
      rw [this, ih]
      rfl
/-- A row's cells, one by one. -/
theorem C_toks {w : World} {A : Option Addr} {l : List K.S111} (h : Kd.C K.k111 w A l.length l) (h0 : 0 < l.length) : ∃ ad, A = some ad ∧ ∀ j v, (toksV l)[j]? = some v → w.cell? (ad.add j) = some v := by
  obtain ⟨ad, e, hc⟩ := h.2.2 h0
  refine ⟨ad, e, fun j v hv => ?_⟩
  have hj : j = j / 4 * 4 + j % 4 := by omega
  rw [hj, toksV_get l _ _ (by omega)] at hv
  cases hx : l[j / 4]? with
  | none => rw [hx] at hv; cases hv
  | some x =>
    rw [hx] at hv
    obtain ⟨c, hcl, hK, hcell⟩ := hc _ _ hx
    obtain rfl := K.k111_open hK
    rw [hj]
    exact hcell _ _ hv
theorem C_of_block {w : World} {g : Nat} {l : List K.S111} (h : w.heap[g]? = some (.cells (toksV l).toArray 111 (0, 0))) (hl : l.length ≤ 9223372036854775807) : Kd.C K.k111 w (some ⟨g, 0, none⟩) l.length l := by
  refine ⟨rfl, hl, fun _ => ⟨_, rfl, fun j p hj => ⟨tokV p, rfl, K.k111_mk w p, fun i u hu => ?_⟩⟩⟩
  have hi : i < 4 := by
    have := (List.getElem?_eq_some_iff.1 hu).1
    exact this
  have hq := toksV_get l j i hi
  rw [hj] at hq
  have hu' : (toksV l)[j * 4 + i]? = some u := hq.trans hu
  show w.cell? ((⟨g, 0, none⟩ : Addr).add (j * 4 + i)) = some u
  rw [Addr.add_lit, Nat.zero_add]
  simp [World.cell?, h, hu']
theorem info_tok4 : (Try.prog.info? 111).map (fun i => (i.zero, i.size, i.bytes)) = some (some (.agg #[.int .i64 0, .int .i64 0, .int .i64 0, .int .i64 0]), 4, 32) := by kernel_rfl
theorem tok_make (m : Nat) (hm : m ≤ 1000000) : ∃ z : List Value, z.length = m * 4 ∧ ∀ W : World, (Instr.makeSlice 22 (.int .i64 (m : Int)) (.int .i64 (m : Int))).run Try.prog W = .ok (.slice (some ⟨W.heap.size, 0, none⟩) m m) (W.alloc (.cells z.toArray 111)) := by
  obtain ⟨i, hi, hz, hs, hb⟩ := info_parts info_tok4
  refine ⟨(madeCells #[.int .i64 0, .int .i64 0, .int .i64 0, .int .i64 0] (m * 4)).toList, by rw [Array.length_toList, size_madeCells], fun W => ?_⟩
  have h := run_make (P := Try.prog) W 22 111 i _ Try.underlying22 hi hz .i64 .i64 (m : Int) (m : Int) (by omega) (by omega) (by rw [hb]; omega) (by omega)
  rw [Int.toNat_natCast, hs] at h
  rw [h]
  rfl
theorem tok_cut (g n i k : Nat) (hin : i + k ≤ n) (hn : n ≤ 1000000) : ∃ As : Option Addr, (∀ W : World, (Instr.slice 22 (.slice (some ⟨g, 0, none⟩) n n) (some (.int .i64 (i : Int))) none none).run Try.prog W = .ok (.slice As (n - i) (n - i)) W) ∧ (0 < k → As = some ⟨g, i * 4, none⟩) := by
  obtain ⟨i0, hi0, hz0, hs0, hb0⟩ := info_parts info_tok4
  refine ⟨if n = i then some ⟨g, 0, none⟩ else (some (⟨g, 0, none⟩ : Addr)).map (·.add (i * 4)), fun W => ?_, fun h0 => ?_⟩
  · have hel : Try.prog.elem 22 = 111 := by simp [Program.elem, Try.underlying22]
    have hu : Try.prog.underlying 22 = some (.slice (Try.prog.elem 22)) := by rw [hel]; exact Try.underlying22
    rw [run_slice_l W 22 (some ⟨g, 0, none⟩) n n hu .i64 (i : Int) (Int.natCast_nonneg _) (by omega), hel]
    simp [sizeOf, typeInfo, hi0, hs0, sliced, Result.andThen]
  · rw [if_neg (by omega)]
    simp [Addr.add_lit]

/-- Pieces: an address, a capacity, tokens. -/
def pcV (p : Option Addr × Nat × List K.S111) : Value := .slice p.1 p.2.2.length p.2.1
def pcL (ps : List (Option Addr × Nat × List K.S111)) : List K.S111 := ps.flatMap fun p => p.2.2
theorem pcL_snoc (ps : List (Option Addr × Nat × List K.S111)) (i : Nat) (h : i < ps.length) : pcL (ps.take (i + 1)) = pcL (ps.take i) ++ ps[i].2.2 := by
  unfold pcL
  rw [List.take_succ_eq_append_getElem h, List.flatMap_append]
  simp
theorem pcL_le (ps : List (Option Addr × Nat × List K.S111)) (i : Nat) : (pcL (ps.take i)).length ≤ (pcL ps).length := by
  have h : pcL ps = pcL (ps.take i) ++ pcL (ps.drop i) := by unfold pcL; rw [← List.flatMap_append, List.take_append_drop]
  rw [h, List.length_append]; omega

set_option maxHeartbeats 8000000 in
theorem tokens_is (P : Nat) (ps : List (Option Addr × Nat × List K.S111)) (w : World) (hP : w.heap[P]? = some (.cells (ps.map pcV).toArray 22 (0, 0))) (hC : ∀ p ∈ ps, Kd.C K.k111 w p.1 p.2.2.length p.2.2) (hk : ps.length ≤ 1000) (hn : (pcL ps).length ≤ 1000000) :
    Calls Try.prog 146 #[.slice (some ⟨P, 0, none⟩) ps.length ps.length] w fun e w' => e = .returned (.slice (some ⟨w.heap.size, 0, none⟩) (pcL ps).length (pcL ps).length) ∧ w'.heap[w.heap.size]? = some (.cells (toksV (pcL ps)).toArray 111 (0, 0)) ∧ Below w.heap.size w w' := by
  obtain ⟨tot, htot⟩ : ∃ tot : Nat → Nat, ∀ i, tot i = (pcL (ps.take i)).length := ⟨_, fun _ => rfl⟩
  obtain ⟨k, hkk⟩ : ∃ k, ps.length = k := ⟨_, rfl⟩
  have ht0 : tot 0 = 0 := htot 0
  have htk : tot k = (pcL ps).length := by rw [htot, ← hkk, List.take_length]
  rw [← htk] at hn ⊢
  rw [hkk] at hk ⊢
  have hcell : ∀ (W : World) (i : Nat) (hi : i < k), Below w.heap.size w W → ∃ (A : Option Addr) (c : Nat) (l : List K.S111), W.cell? ⟨P, i, none⟩ = some (.slice A l.length c) ∧ Kd.C K.k111 W A l.length l ∧ tot (i + 1) = tot i + l.length ∧ tot (i + 1) ≤ tot k ∧ pcL (ps.take (i + 1)) = pcL (ps.take i) ++ l := fun W i hi hb => by
    have hi' : i < ps.length := by omega
    refine ⟨ps[i].1, ps[i].2.1, ps[i].2.2, ?_, Kd.C_below (hC _ (List.getElem_mem hi')) hb, ?_, ?_, pcL_snoc ps i hi'⟩
    · have : w.cell? ⟨P, i, none⟩ = some (pcV ps[i]) := by simp [World.cell?, hP, hi']
      exact pw_cell_below hb this
    · rw [htot, htot, pcL_snoc ps i hi', List.length_append]
    · rw [htot, htk]; exact pcL_le ps _
  have HC := Lib.hid hcell
  have HT := Lib.hid htot
  have HK := Lib.hid hkk
  have HTK := Lib.hid htk
  clear hP hC hcell htot hkk htk
  obtain ⟨z, hzl, hz⟩ := tok_make (tot k) hn
  have HZ := Lib.hid hzl
  clear hzl
  go_enter Try.func146, Try.ntmps146
  go_wp2
  go_loopg [3, 12] k (fun g s3 s12 wr => ∃ i : Nat, s12 = .int .i64 i ∧ s3 = .int .i64 (tot i : Nat) ∧ i ≤ k ∧ g = k - i ∧ w = wr)
  case atStart => exact ⟨0, rfl, by rw [ht0]; rfl, Nat.zero_le _, rfl, rfl⟩
  case round =>
    obtain ⟨i, rfl, rfl, hi, hg, rfl⟩ := hrel
    by_cases hlt : i < k
    · obtain ⟨A, c, l, c0, hr, ht1, ht2, hpl⟩ := HC.out _ i hlt (Below.refl _ _)
      have hT1 := Lib.hid ht1
      have hll : tot i + l.length ≤ 1000000 := by omega
      clear hr hpl ht1 ht2
      go_wp2
      go_roundg (k - (i + 1))
      case measure => omega
      case rel => exact ⟨i + 1, by go_num, by rw [hT1.out]; go_num, by omega, rfl, rfl⟩
    · obtain rfl : k = i := by omega
      go_upto_region 9 with (fail)
      obtain ⟨w1, hw1⟩ : ∃ w1, w.alloc (.cells z.toArray 111) = w1 := ⟨_, rfl⟩
      have HB1 : Hid (Below w.heap.size w w1) := Lib.hid (by rw [← hw1]; exact (Below.refl _ _).alloc (Nat.le_refl _) _)
      have HR1 : Hid (w1.heap[w.heap.size]? = some (.cells z.toArray 111 (0, 0))) := Lib.hid (by rw [← hw1]; exact World.alloc_heap_new w _)
      rw [hw1]
      clear hw1 hz
      go_wp2
      go_loopg [7, 25] k (fun g s7 s25 wr => ∃ (i : Nat) (rest : List Value), s25 = .int .i64 i ∧ s7 = .int .i64 (tot i : Nat) ∧ i ≤ k ∧ g = k - i ∧ rest.length = (tot k - tot i) * 4 ∧ Hid (wr.heap[w.heap.size]? = some (.cells (toksV (pcL (ps.take i)) ++ rest).toArray 111 (0, 0))) ∧ Hid (Below w.heap.size w wr))
      case atStart => exact ⟨0, z, rfl, by rw [ht0]; rfl, Nat.zero_le _, rfl, by rw [ht0, HZ.out]; omega, Lib.hid (by simpa [pcL, toksV] using HR1.out), HB1⟩
      case round =>
        clear HB1 HR1
        obtain ⟨i, rest, rfl, rfl, hi, hg, hrl, HR, HB⟩ := hrel
        by_cases hlt : i < k
        · obtain ⟨A, c, l, c0, hr, ht1, ht2, hpl⟩ := HC.out _ i hlt HB.out
          obtain ⟨As, hcut, hAs⟩ := tok_cut w.heap.size (tot k) (tot i) l.length (by omega) hn
          have hpos : 0 < l.length → As = some ⟨w.heap.size, tot i * 4, none⟩ ∧ ∃ ad, A = some ad ∧ ∀ j v, (toksV l)[j]? = some v → wr.cell? (ad.add j) = some v := fun h => ⟨hAs h, C_toks hr h⟩
          have hlen : (toksV (pcL (ps.take i)) ++ rest).length = tot k * 4 := by rw [List.length_append, toksV_length, ← HT.out, hrl]; omega
          have hpre : (toksV (pcL (ps.take i))).length = tot i * 4 := by rw [toksV_length, ← HT.out]
          have hcsl := toksV_length l
          have hone := toksV_one l
          obtain ⟨cs, hcs⟩ : ∃ cs, toksV l = cs := ⟨_, rfl⟩
          rw [hcs] at hpos hcsl hone
          have hnew : toksV (pcL (ps.take (i + 1))) ++ rest.drop (l.length * 4) = splice (toksV (pcL (ps.take i)) ++ rest) (tot i * 4) cs := by
            rw [hpl, toksV_append, hcs]
            unfold splice
            rw [hcsl, ← hpre, List.take_left, List.drop_append, List.drop_of_length_le (l := toksV (pcL (ps.take i))) (by omega), List.nil_append, List.append_assoc]
            congr 3
            omega
          have hrl2 : (rest.drop (l.length * 4)).length = (tot k - tot (i + 1)) * 4 := by rw [List.length_drop]; omega
          obtain ⟨cur, hcur⟩ : ∃ cur, toksV (pcL (ps.take i)) ++ rest = cur := ⟨_, rfl⟩
          rw [hcur] at HR hlen hnew
          have hT1 := Lib.hid ht1
          have hll : tot i + l.length ≤ 1000000 := by omega
          have hfit : tot i * 4 + cs.length ≤ cur.length := by omega
          have hle : l.length ≤ tot k - tot i := by omega
          have HPOS := Lib.hid hpos
          have HLEN := Lib.hid hcsl
          have HONE := Lib.hid hone
          have HNEW := Lib.hid hnew
          have HRL2 := Lib.hid hrl2
          have HFIT := Lib.hid hfit
          have HLE := Lib.hid hle
          clear hr hpl ht1 ht2 hAs hpos hlen hpre hcsl hone hcs hnew hrl hrl2 hcur hfit hle
          go_wp2_with ((with_reducible refine wpList_copy4 rfl (.tmp 32) (.tmp 33) 22 22 rfl 111 Try.underlying22 (by kernel_rfl) As A (tot k - tot i) (tot k - tot i) l.length c rfl rfl w.heap.size (tot i * 4) cur 111 HR.out cs HLEN.out HLE.out HPOS.out HFIT.out HONE.out w.heap.size w HB.out (Nat.le_refl _) ?_); intro w2 hg2 hb2; have HB2 := Lib.hid hb2; clear hb2)
          go_roundg (k - (i + 1))
          case measure => omega
          case rel => exact ⟨i + 1, _, by go_num, by rw [hT1.out]; go_num, by omega, rfl, HRL2.out, Lib.hid (by rw [HNEW.out]; exact hg2.out), HB2⟩
        · obtain rfl : k = i := by omega
          obtain rfl : rest = [] := List.eq_nil_of_length_eq_zero (by omega)
          have hR := HR.out
          rw [← HK.out, List.take_length, List.append_nil] at hR
          have HR2 := Lib.hid hR
          clear hR HR
          go_wp2
          go_ret
          exact ⟨rfl, HR2.out, HB.out⟩
end Go.Proofs.Ytmbnjgnmblgjoaa.Man
end

-- Mx0
section
-- Written by a program of this session (wip/tools/ppatch.py), function by function. Not trusted: Lean checks it.














































namespace Go.Proofs.Ytmbnjgnmblgjoaa.M
open Go.RowKit Go.Proofs.YtmbnjgnmblgjoaaW.PrintWords Go.Proofs.YtmbnjgnmblgjoaaW.PrintLast Go.Proofs.YtmbnjgnmblgjoaaW.PrintMore
attribute [local go_sem] max2_int min2_int max_two min_two max_three min_three max_four min_four   -- for this text's walks alone
set_option linter.unusedVariables false
set_option linter.unusedSimpArgs false



def errW : Option Int → Value
  | none => .nilIface
  | some c => .iface 0 (.int .i64 c)
theorem errW_none : errW none = .nilIface := rfl
theorem errW_some (c : Int) : errW (some c) = .iface 0 (.int .i64 c) := rfl

-- the values' own types

end Go.Proofs.Ytmbnjgnmblgjoaa.M
end

-- Mx1
section
-- Written by a program of this session (wip/tools/ppatch.py), function by function. Not trusted: Lean checks it.

namespace Go.Proofs.Ytmbnjgnmblgjoaa.M
open Go.RowKit Go.Proofs.YtmbnjgnmblgjoaaW.PrintWords Go.Proofs.YtmbnjgnmblgjoaaW.PrintLast Go.Proofs.YtmbnjgnmblgjoaaW.PrintMore
attribute [local go_sem] max2_int min2_int max_two min_two max_three min_three max_four min_four   -- for this text's walks alone
set_option linter.unusedVariables false
set_option linter.unusedSimpArgs false

/-! ### mark_Right: function 138 -/
def mark_Right.f (a0 : Int) : Option (Bool) := if a0 ≥ 0 then (some (decide (a0 ≤ 4))) else (some false)
set_option maxHeartbeats 8000000 in
set_option maxRecDepth 100000 in
theorem mark_Right.calls (a0 : Int) (r : Bool) (w : World) (h : mark_Right.f a0 = some r) :
    Calls Try.prog 138 #[.int .i64 a0] w fun e w' => e = .returned (.bool r) ∧ Drawn0 w w' := by
  have H : (if a0 ≥ 0 then (some (decide (a0 ≤ 4))) else (some false)) = some r := h
  clear h
  by_cases c2 : a0 ≥ 0
  · rw [if_pos c2] at H
    have c2b0 : decide (0 ≤ a0) = true := decide_eq_true c2
    clear c2
    obtain rfl := Option.some.inj H
    go_enter Try.func138, Try.ntmps138
    go_wp2
    go_ret
    exact ⟨by first | rfl | (simp; done) | (simp [*]; done), by repeat (first | exact Drawn0.refl _ | apply Drawn0.step)⟩
  · rw [if_neg c2] at H
    have c2b0 : decide (0 ≤ a0) = false := decide_eq_false c2
    clear c2
    obtain rfl := Option.some.inj H
    go_enter Try.func138, Try.ntmps138
    go_wp2
    go_ret
    exact ⟨by first | rfl | (simp; done) | (simp [*]; done), by repeat (first | exact Drawn0.refl _ | apply Drawn0.step)⟩

/-! ### mark_place: function 168 -/
def mark_place.l0 : Nat → Int → Int → Option (Int)
  | 0, _, _ => none
  | k + 1, x0, x3 => if x3 < 3 then (if 0 ≤ x3 then (if x0 = (shl .i64 1 x3) then (some x3) else (mark_place.l0 k x0 (wrap64 (x3 + 1)))) else (none)) else (some 3)
def mark_place.f (k : Nat) (a0 : Int) : Option (Int) := mark_place.l0 k a0 0
theorem mark_place.mono_l : ∀ k, (∀ y0 y1, LeO (mark_place.l0 k y0 y1) (mark_place.l0 (k + 1) y0 y1))
  | 0 => fun _ _ r h => by simp [mark_place.l0] at h
  | k + 1 => by
    have ih0 := mark_place.mono_l k
    · intro y0 y1
      unfold mark_place.l0
      repeat' first
      | (with_reducible exact ih0 _ _)
      | (with_reducible exact LeO.refl _)
      | (with_reducible exact LeO.none _)
      | (with_reducible refine LeO.ite ?_ ?_)
      | (with_reducible refine LeO.bind ?_ (fun _ => ?_))
      | exact ih0 _ _
      | exact LeO.none _
      | refine LeO.ite ?_ ?_
      | refine LeO.bind ?_ (fun _ => ?_)
theorem mark_place.mono : ∀ a0 k, LeO (mark_place.f k a0) (mark_place.f (k + 1) a0) := by
  intro a0 k
  have ih0 := mark_place.mono_l k
  unfold mark_place.f
  repeat' first
      | (with_reducible exact ih0 _ _)
      | (with_reducible exact LeO.refl _)
      | (with_reducible exact LeO.none _)
      | (with_reducible refine LeO.ite ?_ ?_)
      | (with_reducible refine LeO.bind ?_ (fun _ => ?_))
      | exact ih0 _ _
      | exact LeO.none _
      | refine LeO.ite ?_ ?_
      | refine LeO.bind ?_ (fun _ => ?_)
set_option maxHeartbeats 8000000 in
set_option maxRecDepth 100000 in
theorem mark_place.calls (k : Nat) (a0 : Int) (r : Int) (w : World) (h : mark_place.f k a0 = some r) :
    Calls Try.prog 168 #[.int .i64 a0] w fun e w' => e = .returned (.int .i64 r) ∧ Drawn0 w w' := by
  have H : (mark_place.l0 k a0 0) = some r := h
  clear h
  have H' := Aside0.mk H
  clear H
  go_enter Try.func168, Try.ntmps168
  go_wp2
  go_loopg [3] k (fun kq v3 w' => ∃ (x3_1 : Int), v3 = .int .i64 x3_1 ∧ Aside0 (mark_place.l0 kq a0 x3_1 = some r) ∧ Aside0 (kq ≤ k) ∧ Drawn0 w w')
  case atStart => exact ⟨(0), (by first | rfl | (simp; done) | (simp [*]; done)), H', ⟨Nat.le_refl _⟩, by repeat (first | exact Drawn0.refl _ | apply Drawn0.step)⟩
  case round =>
    clear H'
    try clear c1
    obtain ⟨x3_1, rfl, HA, HK1, ⟨m1, rfl⟩⟩ := hrel
    cases gk with
    | zero => exact absurd HA.out (by simp [mark_place.l0])
    | succ k1 =>
      have H := HA.out
      clear HA
      simp only [mark_place.l0] at H
      by_cases c2 : x3_1 < 3
      · rw [if_pos c2] at H
        have c2b0 : decide (x3_1 < 3) = true := decide_eq_true c2
        clear c2
        by_cases c3 : 0 ≤ x3_1
        · rw [if_pos c3] at H
          have c3b0 := eq_true c3
          have c3b1 : decide (0 ≤ x3_1) = true := decide_eq_true c3
          clear c3
          obtain ⟨ji4, hji4⟩ : ∃ j_ : Int, (shl .i64 1 x3_1) = j_ := ⟨_, rfl⟩
          replace H : (if a0 = (ji4) then (some x3_1) else (mark_place.l0 k1 a0 (wrap64 (x3_1 + 1)))) = some r := by first | (rw [hji4] at H; exact H) | (simp only [hji4] at H ⊢; exact H)
          have hji4_ : (IntKind.i64.wrap (1 * 2 ^ min x3_1.toNat 64)) = ji4 := hji4
          have hji4z : x3_1 ≤ 64 → (IntKind.i64.wrap (1 * 2 ^ x3_1.toNat)) = ji4 := shl_small hji4
          have hji4u : (IntKind.i64.wrap (2 ^ min x3_1.toNat 64)) = ji4 := by have h_ := hji4_; rw [Int.one_mul] at h_; exact h_
          have hji4v : x3_1 ≤ 64 → (IntKind.i64.wrap (2 ^ x3_1.toNat)) = ji4 := fun hle_ => by have h_ := hji4z hle_; rw [Int.one_mul] at h_; exact h_
          have hji4y : (wrap64 (1 * 2 ^ min x3_1.toNat 64)) = ji4 := (i64_w _).symm.trans hji4_
          have hji4x : x3_1 ≤ 64 → (wrap64 (1 * 2 ^ x3_1.toNat)) = ji4 := fun h_ => (i64_w _).symm.trans (hji4z h_)
          by_cases c5 : a0 = (ji4)
          · rw [if_pos c5] at H
            have c5b0 : (a0 == (ji4)) = true := beq_iff_eq.mpr c5
            have c5b1 : (a0 != (ji4)) = false := bne_eq_false_iff_eq.mpr c5
            clear c5
            obtain rfl := Option.some.inj H
            go_wp2
            go_ret
            exact ⟨by first | rfl | (simp; done) | (simp only [← hji4] <;> (first | rfl | simp)) | (simp [*]; done), by repeat (first | exact Drawn0.refl _ | apply Drawn0.step)⟩
          · rw [if_neg c5] at H
            have c5b0 : (a0 == (ji4)) = false := beq_eq_false_iff_ne.mpr c5
            have c5b1 : (a0 != (ji4)) = true := bne_iff_ne.mpr c5
            have H' := Aside0.mk H
            clear H
            go_wp2
            go_roundg k1
            case measure => have := HK1.out; omega
            case rel => exact ⟨(wrap64 (x3_1 + 1)), (by first | rfl | (simp; done) | (simp [*]; done)), H', ⟨by have := HK1.out; omega⟩, by repeat (first | exact Drawn0.refl _ | apply Drawn0.step)⟩
        · rw [if_neg c3] at H
          exact absurd H (by simp)
      · rw [if_neg c2] at H
        have c2b0 : decide (x3_1 < 3) = false := decide_eq_false c2
        clear c2
        obtain rfl := Option.some.inj H
        go_wp2
        go_ret
        exact ⟨by first | rfl | (simp; done) | (simp [*]; done), by repeat (first | exact Drawn0.refl _ | apply Drawn0.step)⟩

/-! ### mark_may: function 165 -/
def mark_may.f (k : Nat) (a0 : Int) (a1 : Int) : Option (Int) := (mark_place.f k a1).bind fun t101 => (if t101 = 3 then (some 1) else ((mark_Right.f a0).bind fun t102 => (if t102 = true then (some 0) else (some 4))))
theorem mark_may.mono : ∀ a0 a1 k, LeO (mark_may.f k a0 a1) (mark_may.f (k + 1) a0 a1) := by
  intro a0 a1 k
  unfold mark_may.f
  repeat' first
      | (with_reducible exact mark_place.mono _ _)
      | (with_reducible exact LeO.refl _)
      | (with_reducible exact LeO.none _)
      | (with_reducible refine LeO.ite ?_ ?_)
      | (with_reducible refine LeO.bind ?_ (fun _ => ?_))
      | exact mark_place.mono _ _
      | exact LeO.none _
      | refine LeO.ite ?_ ?_
      | refine LeO.bind ?_ (fun _ => ?_)
set_option maxHeartbeats 8000000 in
set_option maxRecDepth 100000 in
theorem mark_may.calls (k : Nat) (a0 : Int) (a1 : Int) (r : Int) (w : World) (h : mark_may.f k a0 a1 = some r) :
    Calls Try.prog 165 #[.int .i64 a0, .int .i64 a1] w fun e w' => e = .returned (.int .i64 r) ∧ Drawn0 w w' := by
  have H : ((mark_place.f k a1).bind fun t101 => (if t101 = 3 then (some 1) else ((mark_Right.f a0).bind fun t102 => (if t102 = true then (some 0) else (some 4))))) = some r := h
  clear h
  replace H := Option.bind_eq_some_iff.mp H
  obtain ⟨t101, A30, H⟩ := H
  replace H : (if t101 = 3 then (some 1) else ((mark_Right.f a0).bind fun t102 => (if t102 = true then (some 0) else (some 4)))) = some r := H
  have A3 := Aside0.mk A30
  clear A30
  by_cases c4 : t101 = 3
  · rw [if_pos c4] at H
    have c4b0 : (t101 == 3) = true := beq_iff_eq.mpr c4
    have c4b1 : (t101 != 3) = false := bne_eq_false_iff_eq.mpr c4
    clear c4
    obtain rfl := Option.some.inj H
    go_enter Try.func165, Try.ntmps165
    go_wp2_with (first | ((with_reducible refine gate_callee (f := 168) rfl ?_); refine goesL_ (some 7) rfl rfl Try.func168 (by kernel_rfl) rfl #[.int .i64 a1] rfl (by (try simp only [List.map_toArray, List.map_cons, List.map_nil]); first | done | rfl | (simp only [List.length_drop, List.length_take]; rfl)) ?_; (with_reducible refine (mark_place.calls k a1 t101 _ A3.out).mono ?_); rintro e w' ⟨rfl, ⟨nd, rfl⟩⟩; refine ⟨_, rfl, ?_⟩))
    go_ret
    exact ⟨by first | rfl | (simp; done) | (simp [*]; done), by repeat (first | exact Drawn0.refl _ | apply Drawn0.step)⟩
  · rw [if_neg c4] at H
    have c4b0 : (t101 == 3) = false := beq_eq_false_iff_ne.mpr c4
    have c4b1 : (t101 != 3) = true := bne_iff_ne.mpr c4
    replace H := Option.bind_eq_some_iff.mp H
    obtain ⟨t102, A50, H⟩ := H
    replace H : (if t102 = true then (some 0) else (some 4)) = some r := H
    have A5 := Aside0.mk A50
    clear A50
    by_cases c6 : t102 = true
    · subst c6
      have H1 : (some 0) = some r := by rw [if_pos rfl] at H; exact H
      clear H
      have H := H1
      clear H1
      obtain rfl := Option.some.inj H
      go_enter Try.func165, Try.ntmps165
      go_wp2_with (first | ((with_reducible refine gate_callee (f := 168) rfl ?_); refine goesL_ (some 7) rfl rfl Try.func168 (by kernel_rfl) rfl #[.int .i64 a1] rfl (by (try simp only [List.map_toArray, List.map_cons, List.map_nil]); first | done | rfl | (simp only [List.length_drop, List.length_take]; rfl)) ?_; (with_reducible refine (mark_place.calls k a1 t101 _ A3.out).mono ?_); rintro e w' ⟨rfl, ⟨nd, rfl⟩⟩; refine ⟨_, rfl, ?_⟩) | ((with_reducible refine gate_callee (f := 138) rfl ?_); refine goesL_ (some 11) rfl rfl Try.func138 (by kernel_rfl) rfl #[.int .i64 a0] rfl (by (try simp only [List.map_toArray, List.map_cons, List.map_nil]); first | done | rfl | (simp only [List.length_drop, List.length_take]; rfl)) ?_; (with_reducible refine (mark_Right.calls a0 true _ A5.out).mono ?_); rintro e w' ⟨rfl, ⟨nd, rfl⟩⟩; refine ⟨_, rfl, ?_⟩))
      go_ret
      exact ⟨by first | rfl | (simp; done) | (simp [*]; done), by repeat (first | exact Drawn0.refl _ | apply Drawn0.step)⟩
    · replace c6 := Bool.eq_false_iff.mpr c6
      subst c6
      have H1 : (some 4) = some r := by rw [if_neg (show ¬ (false = true) by decide)] at H; exact H
      clear H
      have H := H1
      clear H1
      obtain rfl := Option.some.inj H
      go_enter Try.func165, Try.ntmps165
      go_wp2_with (first | ((with_reducible refine gate_callee (f := 168) rfl ?_); refine goesL_ (some 7) rfl rfl Try.func168 (by kernel_rfl) rfl #[.int .i64 a1] rfl (by (try simp only [List.map_toArray, List.map_cons, List.map_nil]); first | done | rfl | (simp only [List.length_drop, List.length_take]; rfl)) ?_; (with_reducible refine (mark_place.calls k a1 t101 _ A3.out).mono ?_); rintro e w' ⟨rfl, ⟨nd, rfl⟩⟩; refine ⟨_, rfl, ?_⟩) | ((with_reducible refine gate_callee (f := 138) rfl ?_); refine goesL_ (some 11) rfl rfl Try.func138 (by kernel_rfl) rfl #[.int .i64 a0] rfl (by (try simp only [List.map_toArray, List.map_cons, List.map_nil]); first | done | rfl | (simp only [List.length_drop, List.length_take]; rfl)) ?_; (with_reducible refine (mark_Right.calls a0 false _ A5.out).mono ?_); rintro e w' ⟨rfl, ⟨nd, rfl⟩⟩; refine ⟨_, rfl, ?_⟩))
      go_ret
      exact ⟨by first | rfl | (simp; done) | (simp [*]; done), by repeat (first | exact Drawn0.refl _ | apply Drawn0.step)⟩

/-! ### mark_Add: function 147 -/
def mark_Add.f (k : Nat) (a0 : Int) (a1 : Int) : Option (Int × Int) := (mark_may.f k a0 a1).bind fun t103 => (if t103 = 0 then (if a0 = 4 then (some (4, 0)) else (if a1 = 4 then (some (4, 0)) else (some (Go.bits .or .i64 a0 a1, 0)))) else (some (0, t103)))
theorem mark_Add.mono : ∀ a0 a1 k, LeO (mark_Add.f k a0 a1) (mark_Add.f (k + 1) a0 a1) := by
  intro a0 a1 k
  unfold mark_Add.f
  repeat' first
      | (with_reducible exact mark_may.mono _ _ _)
      | (with_reducible exact LeO.refl _)
      | (with_reducible exact LeO.none _)
      | (with_reducible refine LeO.ite ?_ ?_)
      | (with_reducible refine LeO.bind ?_ (fun _ => ?_))
      | exact mark_may.mono _ _ _
      | exact LeO.none _
      | refine LeO.ite ?_ ?_
      | refine LeO.bind ?_ (fun _ => ?_)
set_option maxHeartbeats 8000000 in
set_option maxRecDepth 100000 in
theorem mark_Add.calls (k : Nat) (a0 : Int) (a1 : Int) (r1 : Int) (r2 : Int) (w : World) (h : mark_Add.f k a0 a1 = some (r1, r2)) :
    Calls Try.prog 147 #[.int .i64 a0, .int .i64 a1] w fun e w' => e = .returned (.tuple #[.int .i64 r1, .int .i64 r2]) ∧ Drawn0 w w' := by
  have H : ((mark_may.f k a0 a1).bind fun t103 => (if t103 = 0 then (if a0 = 4 then (some (4, 0)) else (if a1 = 4 then (some (4, 0)) else (some (Go.bits .or .i64 a0 a1, 0)))) else (some (0, t103)))) = some (r1, r2) := h
  clear h
  replace H := Option.bind_eq_some_iff.mp H
  obtain ⟨t103, A30, H⟩ := H
  replace H : (if t103 = 0 then (if a0 = 4 then (some (4, 0)) else (if a1 = 4 then (some (4, 0)) else (some (Go.bits .or .i64 a0 a1, 0)))) else (some (0, t103))) = some (r1, r2) := H
  have A3 := Aside0.mk A30
  clear A30
  by_cases c4 : t103 = 0
  · rw [if_pos c4] at H
    have c4b0 : (t103 == 0) = true := beq_iff_eq.mpr c4
    have c4b1 : (t103 != 0) = false := bne_eq_false_iff_eq.mpr c4
    clear c4
    by_cases c5 : a0 = 4
    · rw [if_pos c5] at H
      have c5b0 : (a0 == 4) = true := beq_iff_eq.mpr c5
      have c5b1 : (a0 != 4) = false := bne_eq_false_iff_eq.mpr c5
      clear c5
      simp only [Option.some.injEq, Prod.mk.injEq] at H
      obtain ⟨rfl, rfl⟩ := H
      go_enter Try.func147, Try.ntmps147
      go_wp2_with (first | ((with_reducible refine gate_callee (f := 165) rfl ?_); refine goesL_ (some 9) rfl rfl Try.func165 (by kernel_rfl) rfl #[.int .i64 a0, .int .i64 a1] rfl (by (try simp only [List.map_toArray, List.map_cons, List.map_nil]); first | done | rfl | (simp only [List.length_drop, List.length_take]; rfl)) ?_; (with_reducible refine (mark_may.calls k a0 a1 t103 _ A3.out).mono ?_); rintro e w' ⟨rfl, ⟨nd, rfl⟩⟩; refine ⟨_, rfl, ?_⟩))
      go_ret2
      exact ⟨by first | rfl | (simp; done) | (simp [*]; done), by repeat (first | exact Drawn0.refl _ | apply Drawn0.step)⟩
    · rw [if_neg c5] at H
      have c5b0 : (a0 == 4) = false := beq_eq_false_iff_ne.mpr c5
      have c5b1 : (a0 != 4) = true := bne_iff_ne.mpr c5
      by_cases c6 : a1 = 4
      · rw [if_pos c6] at H
        have c6b0 : (a1 == 4) = true := beq_iff_eq.mpr c6
        have c6b1 : (a1 != 4) = false := bne_eq_false_iff_eq.mpr c6
        clear c6
        simp only [Option.some.injEq, Prod.mk.injEq] at H
        obtain ⟨rfl, rfl⟩ := H
        go_enter Try.func147, Try.ntmps147
        go_wp2_with (first | ((with_reducible refine gate_callee (f := 165) rfl ?_); refine goesL_ (some 9) rfl rfl Try.func165 (by kernel_rfl) rfl #[.int .i64 a0, .int .i64 a1] rfl (by (try simp only [List.map_toArray, List.map_cons, List.map_nil]); first | done | rfl | (simp only [List.length_drop, List.length_take]; rfl)) ?_; (with_reducible refine (mark_may.calls k a0 a1 t103 _ A3.out).mono ?_); rintro e w' ⟨rfl, ⟨nd, rfl⟩⟩; refine ⟨_, rfl, ?_⟩))
        go_ret2
        exact ⟨by first | rfl | (simp; done) | (simp [*]; done), by repeat (first | exact Drawn0.refl _ | apply Drawn0.step)⟩
      · rw [if_neg c6] at H
        have c6b0 : (a1 == 4) = false := beq_eq_false_iff_ne.mpr c6
        have c6b1 : (a1 != 4) = true := bne_iff_ne.mpr c6
        simp only [Option.some.injEq, Prod.mk.injEq] at H
        obtain ⟨rfl, rfl⟩ := H
        go_enter Try.func147, Try.ntmps147
        go_wp2_with (first | ((with_reducible refine gate_callee (f := 165) rfl ?_); refine goesL_ (some 9) rfl rfl Try.func165 (by kernel_rfl) rfl #[.int .i64 a0, .int .i64 a1] rfl (by (try simp only [List.map_toArray, List.map_cons, List.map_nil]); first | done | rfl | (simp only [List.length_drop, List.length_take]; rfl)) ?_; (with_reducible refine (mark_may.calls k a0 a1 t103 _ A3.out).mono ?_); rintro e w' ⟨rfl, ⟨nd, rfl⟩⟩; refine ⟨_, rfl, ?_⟩))
        go_ret2
        exact ⟨by first | rfl | (simp; done) | (simp [*]; done), by repeat (first | exact Drawn0.refl _ | apply Drawn0.step)⟩
  · rw [if_neg c4] at H
    have c4b0 : (t103 == 0) = false := beq_eq_false_iff_ne.mpr c4
    have c4b1 : (t103 != 0) = true := bne_iff_ne.mpr c4
    simp only [Option.some.injEq, Prod.mk.injEq] at H
    obtain ⟨rfl, rfl⟩ := H
    go_enter Try.func147, Try.ntmps147
    go_wp2_with (first | ((with_reducible refine gate_callee (f := 165) rfl ?_); refine goesL_ (some 9) rfl rfl Try.func165 (by kernel_rfl) rfl #[.int .i64 a0, .int .i64 a1] rfl (by (try simp only [List.map_toArray, List.map_cons, List.map_nil]); first | done | rfl | (simp only [List.length_drop, List.length_take]; rfl)) ?_; (with_reducible refine (mark_may.calls k a0 a1 t103 _ A3.out).mono ?_); rintro e w' ⟨rfl, ⟨nd, rfl⟩⟩; refine ⟨_, rfl, ?_⟩))
    go_ret2
    exact ⟨by first | rfl | (simp; done) | (simp [*]; done), by repeat (first | exact Drawn0.refl _ | apply Drawn0.step)⟩

/-! ### mark_Take: function 148 -/
def mark_Take.f (k : Nat) (a0 : Int) (a1 : Int) : Option (Int × Int) := (mark_may.f k a0 a1).bind fun t104 => (if t104 = 0 then (some (Go.bits .andNot .i64 a0 a1, 0)) else (some (0, t104)))
theorem mark_Take.mono : ∀ a0 a1 k, LeO (mark_Take.f k a0 a1) (mark_Take.f (k + 1) a0 a1) := by
  intro a0 a1 k
  unfold mark_Take.f
  repeat' first
      | (with_reducible exact mark_may.mono _ _ _)
      | (with_reducible exact LeO.refl _)
      | (with_reducible exact LeO.none _)
      | (with_reducible refine LeO.ite ?_ ?_)
      | (with_reducible refine LeO.bind ?_ (fun _ => ?_))
      | exact mark_may.mono _ _ _
      | exact LeO.none _
      | refine LeO.ite ?_ ?_
      | refine LeO.bind ?_ (fun _ => ?_)
set_option maxHeartbeats 8000000 in
set_option maxRecDepth 100000 in
theorem mark_Take.calls (k : Nat) (a0 : Int) (a1 : Int) (r1 : Int) (r2 : Int) (w : World) (h : mark_Take.f k a0 a1 = some (r1, r2)) :
    Calls Try.prog 148 #[.int .i64 a0, .int .i64 a1] w fun e w' => e = .returned (.tuple #[.int .i64 r1, .int .i64 r2]) ∧ Drawn0 w w' := by
  have H : ((mark_may.f k a0 a1).bind fun t104 => (if t104 = 0 then (some (Go.bits .andNot .i64 a0 a1, 0)) else (some (0, t104)))) = some (r1, r2) := h
  clear h
  replace H := Option.bind_eq_some_iff.mp H
  obtain ⟨t104, A30, H⟩ := H
  replace H : (if t104 = 0 then (some (Go.bits .andNot .i64 a0 a1, 0)) else (some (0, t104))) = some (r1, r2) := H
  have A3 := Aside0.mk A30
  clear A30
  by_cases c4 : t104 = 0
  · rw [if_pos c4] at H
    have c4b0 : (t104 == 0) = true := beq_iff_eq.mpr c4
    have c4b1 : (t104 != 0) = false := bne_eq_false_iff_eq.mpr c4
    clear c4
    simp only [Option.some.injEq, Prod.mk.injEq] at H
    obtain ⟨rfl, rfl⟩ := H
    go_enter Try.func148, Try.ntmps148
    go_wp2_with (first | ((with_reducible refine gate_callee (f := 165) rfl ?_); refine goesL_ (some 9) rfl rfl Try.func165 (by kernel_rfl) rfl #[.int .i64 a0, .int .i64 a1] rfl (by (try simp only [List.map_toArray, List.map_cons, List.map_nil]); first | done | rfl | (simp only [List.length_drop, List.length_take]; rfl)) ?_; (with_reducible refine (mark_may.calls k a0 a1 t104 _ A3.out).mono ?_); rintro e w' ⟨rfl, ⟨nd, rfl⟩⟩; refine ⟨_, rfl, ?_⟩))
    go_ret2
    exact ⟨by first | rfl | (simp; done) | (simp [*]; done), by repeat (first | exact Drawn0.refl _ | apply Drawn0.step)⟩
  · rw [if_neg c4] at H
    have c4b0 : (t104 == 0) = false := beq_eq_false_iff_ne.mpr c4
    have c4b1 : (t104 != 0) = true := bne_iff_ne.mpr c4
    simp only [Option.some.injEq, Prod.mk.injEq] at H
    obtain ⟨rfl, rfl⟩ := H
    go_enter Try.func148, Try.ntmps148
    go_wp2_with (first | ((with_reducible refine gate_callee (f := 165) rfl ?_); refine goesL_ (some 9) rfl rfl Try.func165 (by kernel_rfl) rfl #[.int .i64 a0, .int .i64 a1] rfl (by (try simp only [List.map_toArray, List.map_cons, List.map_nil]); first | done | rfl | (simp only [List.length_drop, List.length_take]; rfl)) ?_; (with_reducible refine (mark_may.calls k a0 a1 t104 _ A3.out).mono ?_); rintro e w' ⟨rfl, ⟨nd, rfl⟩⟩; refine ⟨_, rfl, ?_⟩))
    go_ret2
    exact ⟨by first | rfl | (simp; done) | (simp [*]; done), by repeat (first | exact Drawn0.refl _ | apply Drawn0.step)⟩

end Go.Proofs.Ytmbnjgnmblgjoaa.M
end
