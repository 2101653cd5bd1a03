/- codec's reader: tokens. -/
import Derived.Test.YtmbnjgnmblgjoaaRead
namespace Go.Proofs.Ytmbnjgnmblgjoaa.Man
open Go.RowKit Go.Proofs.YtmbnjgnmblgjoaaW.PrintWords Go.Proofs.YtmbnjgnmblgjoaaW.PrintLast Go.Proofs.YtmbnjgnmblgjoaaW.PrintMore
set_option linter.unusedVariables false
set_option linter.unusedSimpArgs false
set_option maxRecDepth 100000

/-- What a reading leaves: it panics with the error, or hands back what was read, the place behind it. -/
def RdP {α : Type} (w : World) (P : Nat) (A : Option Addr) (c : Nat) (b : List Int) (ret : α → Value → World → Prop) (res : Rd α) (e : Ending) (w' : World) : Prop :=
  w.grownBy w' (some P) ∧ match res with
  | .error f => e = .panicked (errCh f)
  | .ok (x, r) => ∃ v, e = .returned v ∧ ret x v w' ∧ SpotAt w' P A c b.length (b.length - r.length)
theorem RdP.err {α : Type} {w : World} {P : Nat} {A : Option Addr} {c : Nat} {b : List Int} {ret : α → Value → World → Prop} {res : Rd α} {f : Int} {w' : World} (hr : res = .error f) (hg : w.grownBy w' (some P)) : RdP w P A c b ret res (.panicked (errCh f)) w' := by
  subst hr
  exact ⟨hg, rfl⟩
theorem RdP.ok {α : Type} {w : World} {P : Nat} {A : Option Addr} {c : Nat} {b : List Int} {ret : α → Value → World → Prop} {res : Rd α} {x : α} {r : List Int} {v : Value} {w' : World} {q : Nat} (hr : res = .ok (x, r)) (hg : w.grownBy w' (some P)) (hv : ret x v w')
    (hs : SpotAt w' P A c b.length q) (hq : b.length - r.length = q) : RdP w P A c b ret res (.returned v) w' := by
  subst hr
  subst hq
  exact ⟨hg, v, rfl, hv, hs⟩
/-- What is left is the bytes from a place on. -/
theorem rnum_rest {top : Int} {b : List Int} {p : Nat} {n : Int} {r : List Int} (hB : areBytesN b = true) (hp : p ≤ b.length) (h : rnum top (b.drop p) = .ok (n, r)) : ∃ q, q ≤ b.length ∧ r = b.drop q ∧ b.length - r.length = q ∧ 0 ≤ n ∧ n ≤ top := by
  have h2 := rnum_inv (areBytesN_drop hB p) h
  rw [rnum_getF hp] at h
  split at h
  · cases h
  rename_i h0
  split at h
  · cases h
  obtain ⟨q, hq, hpq, hqb⟩ := getF_spot (p := p) hB (by omega)
  simp only [Except.ok.injEq, Prod.mk.injEq] at h
  rw [hq, Int.toNat_natCast] at h
  exact ⟨q, hqb, h.2.symm, by rw [← h.2, List.length_drop]; omega, h2.1, h2.2.1⟩

/-- A row of tokens of the call's own. -/
abbrev TR (w : World) (base : Nat) (v : Value) (xs : List K.S111) : Prop := Kd.R K.k111 111 w base (fun _ => True) v xs
theorem info_tok : (Try.prog.info? 111).map (fun i => (i.zero, i.size, i.bytes)) = some (some (.agg #[.int .i64 0, .int .i64 0, .int .i64 0, .int .i64 0]), 4, 32) := by kernel_rfl
theorem TR.push_ev {ops : Array Oper} {rest : List Oper} {o : Oper} {a : Act} {Q : Exit → Act → World → Prop} {w : World} {base : Nat} {v : Value} {xs : List K.S111} {k t n m : Int} {N : Nat} (hN : w.heap.size = N)
    (h : TR w base v xs) (hgd : o.guard = none) (s x : Operand) (ho : o.op = .call { callee := .builtin .append, args := #[s, x], argTypes := #[22, 22] })
    (hs : a.eval s = v) (hx : a.eval x = .slice (some ⟨N, 0, none⟩) 1 1) (hbase : base ≤ w.heap.size) (hl : xs.length ≤ 4000)
    (kk : ∀ v1 w1, TR w1 base v1 (xs ++ [⟨k, t, n, m⟩]) → Below base w w1 → wpList Try.prog ops Q rest (a.put o.dst v1) w1) : wpList Try.prog ops Q (o :: rest) a (w.alloc (.cells #[.int .i64 k, .int .i64 t, .int .i64 n, .int .i64 m] 111)) :=
  Kd.R_append K.k111 (w0 := w) base hgd s x 22 111 (.agg #[.int .i64 0, .int .i64 0, .int .i64 0, .int .i64 0]) 32 ho Try.underlying22 info_tok rfl (by decide) (by decide) v xs ⟨k, t, n, m⟩ [.int .i64 k, .int .i64 t, .int .i64 n, .int .i64 m] (fun _ => True) (fun _ => False) hs (by rw [hx, hN])
    (K.k111_mkM _ _ _ _) (fun _ h => h.elim) (fun _ _ => trivial) h (Below.refl _ _) hbase (by omega) (fun v1 w1 h1 h2 h3 h4 => kk v1 w1 h1 h2)
theorem TR.grown {w w1 : World} {base P : Nat} {v : Value} {xs : List K.S111} (h : TR w base v xs) (hg : w.grownBy w1 (some P)) (hP : P < base) : TR w1 base v xs :=
  Kd.R_mono (Kd.R_grown (Kd.R_bound h) hg (fun j hj e => by have h1 := hj.2.1; have h2 := Option.some.inj e; omega)) (fun _ _ => trivial)

theorem TR.over {w3 w4 : World} {base P : Nat} {v : Value} {xs : List K.S111} (h : TR w3 base v xs) (hg : w3.grownBy w4 (some P)) (hP : P < base) (T k : Nat) (u : Value) (hT : w3.heap.size ≤ T) : TR (w4.setCell ⟨T, k, none⟩ u) base v xs :=
  Kd.R_mono (Kd.R_grown (Kd.R_grown (Kd.R_bound h) hg (fun j hj e => by have h1 := hj.2.1; have h2 := Option.some.inj e; omega)) (grownBy_set w4 T k u (World.grownBy.refl w4 _)) (fun j hj e => by have h1 := hj.2.2.1; have h2 := Option.some.inj e; omega)) (fun _ _ => trivial)
theorem grown_onB {w w1 w2 : World} {r : Option Nat} {m : Nat} (hg : w.grownBy w1 r) (hb : Below m w1 w2) (hm : w.heap.size ≤ m) : w.grownBy w2 r :=
  ⟨hb.os.trans hg.os, hb.tape.trans hg.tape, hb.output.trans hg.output, Nat.le_trans hg.size hb.size, fun k hk hr => (hb.block k (by omega)).trans (hg.block k hk hr)⟩
theorem grown_setT {w w1 : World} {r : Option Nat} (hg : w.grownBy w1 r) (T k : Nat) (u : Value) (hT : w.heap.size ≤ T) : w.grownBy (w1.setCell ⟨T, k, none⟩ u) r :=
  ⟨hg.os, hg.tape, hg.output, by simpa [World.setCell] using hg.size, fun j hj hr => (Below.heap_setCell w1 ⟨T, k, none⟩ u j (by show j ≠ T; omega)).trans (hg.block j hj hr)⟩
/-- A block that holds a pointer. -/
def PtrAt (w : World) (R P : Nat) : Prop := w.heap[R]? = some (.cells #[.pointer (some ⟨P, 0, none⟩)] 140 (0, 0))
theorem PtrAt.c0 {w : World} {R P : Nat} (k : PtrAt w R P) : w.cell? ⟨R, 0, none⟩ = some (.pointer (some ⟨P, 0, none⟩)) := by simp [World.cell?, show w.heap[R]? = _ from k]
theorem PtrAt.lt {w : World} {R P : Nat} (k : PtrAt w R P) : R < w.heap.size := (Array.getElem?_eq_some_iff.1 k).1
theorem PtrAt.grown {w w1 : World} {R P : Nat} (k : PtrAt w R P) (hg : w.grownBy w1 (some P)) (hP : P < R) : PtrAt w1 R P := (hg.block _ k.lt (by intro e; have := Option.some.inj e; omega)).trans k
theorem SpotAt.grownB {w w1 : World} {P c n p m : Nat} {A : Option Addr} (k : SpotAt w P A c n p) (h : Below m w w1) (hm : P < m) : SpotAt w1 P A c n p := (h.block P hm).trans k

theorem and3 (k : Int) (h0 : 0 ≤ k) (h1 : k ≤ 2147483647) : Go.bits .and .i64 k 3 = k % 4 :=
  bits_mask .i64 63 (by decide) (fun n a b => by
    have b' : n < 9223372036854775808 := b
    rw [IntKind.wrap_i64]; omega) 2 (by decide) k h0 (by simp; omega)

theorem bnd_snoc {α : Type} (r : Rd (List α)) (ys : List α) (x : α) : bnd (bnd r fun xs l => (.ok (x :: xs, l) : Rd (List α))) (fun zs l => (.ok (ys ++ zs, l) : Rd (List α))) = bnd r fun zs l => .ok ((ys ++ [x]) ++ zs, l) := by
  rcases r with f | ⟨zs, l⟩
  · rfl
  · show (Except.ok (ys ++ x :: zs, l) : Rd (List α)) = .ok ((ys ++ [x]) ++ zs, l)
    rw [List.append_assoc]; rfl
theorem TokAt.f {w : World} {P : Nat} {x : K.S111} (k : TokAt w P x) (i : Nat) : w.frozen? ⟨P, i, none⟩ = false := by simp [World.frozen?, show w.heap[P]? = _ from k]

set_option maxHeartbeats 16000000 in
theorem sdoc_is {w0 w : World} {P c p : Nat} {A : Option Addr} {b : List Int} (hC : Kd.C (Kd.int .u8) w0 A b.length b) (hc : b.length ≤ c) (hB : areBytesN b = true) (hb : Below w0.heap.size w0 w) (hP : w0.heap.size ≤ P) (k : SpotAt w P A c b.length p) (hp : p ≤ b.length) :
    Calls Try.prog 125 #[.agg #[.pointer (some ⟨P, 0, none⟩)]] w (RdP w P A c b (fun xs v w' => TR w' w.heap.size v xs) (rdoc (b.drop p))) := by
  have hPl := k.lt
  obtain ⟨w1, hw1⟩ : ∃ w1, w1 = w.alloc (.cells #[.pointer (some ⟨P, 0, none⟩)] 140) := ⟨_, rfl⟩
  have hb1 : Below w.heap.size w w1 := by rw [hw1]; exact (Below.refl _ _).alloc (Nat.le_refl _) _
  have hR1 : PtrAt w1 w.heap.size P := by rw [hw1]; exact World.alloc_heap_new w _
  have hk1 : SpotAt w1 P A c b.length p := k.below hb1 hPl
  have hc1 := Kd.C_below hC (hb.trans (hb1.mono hb.size))
  have hg1 : w.grownBy w1 (some P) := grown_of_below hb1 _
  have HC := Lib.hid hC
  have HBB := Lib.hid hB
  have HG0 := Lib.hid (fun (W : World) (hg : w.grownBy W (some P)) => Kd.C_below hC (below_of_grown hb hg hP))
  clear k
  obtain ⟨X, hX⟩ : ∃ X, rdoc (b.drop p) = X := ⟨_, rfl⟩
  rw [hX]
  unfold rdoc at hX
  rcases hres : rnum 2048 (b.drop p) with f | ⟨n, r⟩
  · rw [hres, bnd_err] at hX
    have HN := Lib.hid (snum_err hk1 hc1 hc hB hp 2048 (by decide) (by decide) f hres)
    have HG1 := Lib.hid hg1
    have HX := Lib.hid hX.symm
    rw [hw1] at HN HG1
    clear hC hB hb hR1 hk1 hc1 hg1 hw1 hb1 hres hX HG0
    go_enter Try.func125, Try.ntmps125
    go_wp2_with (go_at_call 131; refine HN.out.mono ?_; rintro e w2 ⟨rfl, hg⟩; have HG2 := Lib.hid (HG1.out.trans hg); clear hg)
    exact ⟨rfl, RdP.err HX.out HG2.out⟩
  · obtain ⟨q, hq, rfl, hql, hn0, hn1⟩ := rnum_rest hB hp hres
    have hN := snum_ok hk1 hc1 hc hB hp 2048 (by decide) (by decide) n _ hres
    rw [hql] at hN
    rw [hres, bnd_ok] at hX
    obtain ⟨N, rfl⟩ : ∃ N : Nat, n = (N : Int) := ⟨n.toNat, by omega⟩
    rw [Int.toNat_natCast] at hX
    have HN := Lib.hid hN
    have HG1 := Lib.hid hg1
    have HX := Lib.hid hX.symm
    have HR1 := Lib.hid hR1
    have HW1 := Lib.hid hw1
    rw [hw1] at HN
    clear hC hB hb hR1 hk1 hc1 hg1 hw1 hb1 hres hX hN
    go_enter Try.func125, Try.ntmps125
    go_wp2_with (go_at_call 131; refine HN.out.mono ?_; rintro e w2 ⟨rfl, hk, hg⟩; rw [← HW1.out] at hg; have HK2 := Lib.hid hk; have HG2 := Lib.hid (HG1.out.trans hg); have HR2 := Lib.hid (HR1.out.grown hg hPl); clear hk hg)
    go_loopg [4, 11] N (fun g s4 s11 wr => ∃ (i q : Nat) (ys : List K.S111), s11 = .int .i64 i ∧ i ≤ N ∧ g = N - i ∧ q ≤ b.length ∧ ys.length = i ∧ Hid (X = bnd (rtoks (N - i) (b.drop q)) fun zs l => .ok (ys ++ zs, l)) ∧ Hid (TR wr (w.heap.size + 1) s4 ys) ∧ Hid (SpotAt wr P A c b.length q) ∧ Hid (w.grownBy wr (some P)) ∧ Hid (PtrAt wr w.heap.size P))
    case atStart => exact ⟨0, q, [], rfl, Nat.zero_le _, rfl, hq, rfl, Lib.hid (by
      rw [HX.out, Nat.sub_zero]
      rcases rtoks N (b.drop q) with f | ⟨zs, l⟩
      · rfl
      · rfl), Lib.hid (Kd.R_nil _ _ _ _ _), HK2, HG2, HR2⟩
    case round =>
      clear HX HK2 HG2 HR2 HN hql hq HG1 HR1 HW1
      obtain ⟨i, q1, ys, rfl, hi, hg, hq1, hyl, HX, HT, HK, HG, HR⟩ := hrel
      have r0 := HR.out.c0
      by_cases hlt : i < N
      · obtain ⟨d, hd⟩ : ∃ d, N - i = d + 1 := ⟨N - i - 1, by omega⟩
        have hd2 : N - (i + 1) = d := by omega
        have hX := HX.out
        rw [hd, rtoks] at hX
        unfold rtok most at hX
        have hwz : w.heap.size + 1 ≤ wr.heap.size := HR.out.lt
        have hcr := HG0.out wr HG.out
        clear HX
        rcases hres : rnum 2147483647 (b.drop q1) with f | ⟨kk, r⟩
        · rw [hres, bnd_err, bnd_err, bnd_err] at hX
          have HN := Lib.hid (snum_err HK.out hcr hc HBB.out hq1 2147483647 (by decide) (by decide) f hres)
          have HX := Lib.hid hX
          clear hres hX hcr hd hd2
          go_wp2_with (go_at_call 131; refine HN.out.mono ?_; rintro e w3 ⟨rfl, hg⟩; have HG3 := Lib.hid (HG.out.trans hg); clear hg)
          exact ⟨rfl, RdP.err HX.out HG3.out⟩
        · obtain ⟨q2, hq2, rfl, hql2, hk0, hk1⟩ := rnum_rest HBB.out hq1 hres
          have hN := snum_ok HK.out hcr hc HBB.out hq1 2147483647 (by decide) (by decide) kk _ hres
          rw [hql2] at hN
          rw [hres, bnd_ok] at hX
          have HN := Lib.hid hN
          have hand := and3 kk hk0 (by omega)
          obtain ⟨a, ha⟩ : ∃ a, kk % 4 = a := ⟨_, rfl⟩
          rw [ha] at hand
          have haa : a = 0 ∨ a = 1 ∨ a = 2 ∨ a = 3 := by omega
          have HA := Lib.hid ha
          have hyl2 : ys.length ≤ 2048 := by omega
          have HX := Lib.hid hX
          have HD := Lib.hid hd2
          clear hres hX hcr hd hN hd2 ha
          go_upto_region 6 with (go_at_call 131; refine HN.out.mono ?_; rintro e w3 ⟨rfl, hk, hg⟩; have HK3 := Lib.hid hk; have HG3 := Lib.hid (HG.out.trans hg); have HR3 := Lib.hid (HR.out.grown hg hPl); have HT3 := Lib.hid (HT.out.grown hg (by omega)); clear hk hg)
          rcases haa with rfl | rfl | rfl | rfl
          · have hX := HX.out
            rw [HA.out, if_pos rfl] at hX
            have hbt : Below w3.heap.size w3 (w3.alloc (.cells #[.int .i64 0, .int .i64 0, .int .i64 (kk / 4), .int .i64 0] 111)) := (Below.refl _ _).alloc (Nat.le_refl _) _
            have HTK : Hid (TokAt (w3.alloc (.cells #[.int .i64 0, .int .i64 0, .int .i64 (kk / 4), .int .i64 0] 111)) w3.heap.size ⟨0, 0, kk / 4, 0⟩) := Lib.hid (World.alloc_heap_new w3 _)
            have hGt : w.grownBy (w3.alloc (.cells #[.int .i64 0, .int .i64 0, .int .i64 (kk / 4), .int .i64 0] 111)) (some P) := HG3.out.trans (grown_of_below hbt _)
            have hKt := HK3.out.grownB hbt HK3.out.lt
            have rt := (HR3.out.grown (grown_of_below hbt _) hPl).c0
            have hCt := HG0.out _ hGt
            have HGT := Lib.hid hGt
            have HBT := Lib.hid hbt
            rcases hres : rnum 2147483647 (b.drop q2) with f | ⟨m, r⟩
            · rw [hres] at hX
              have HN2 := Lib.hid (snum_err hKt hCt hc HBB.out hq2 2147483647 (by decide) (by decide) f hres)
              have HX2 := Lib.hid (show X = .error f from hX)
              clear hres hX hbt hGt hKt hCt HX HTK
              go_wp2_with (go_at_call 131; refine HN2.out.mono ?_; rintro e w4 ⟨rfl, hg⟩; have HG4 := Lib.hid (HGT.out.trans hg); clear hg)
              exact ⟨rfl, RdP.err HX2.out HG4.out⟩
            · obtain ⟨q3, hq3, rfl, hql3, hm0, hm1⟩ := rnum_rest HBB.out hq2 hres
              have hN2 := snum_ok hKt hCt hc HBB.out hq2 2147483647 (by decide) (by decide) m _ hres
              rw [hql3] at hN2
              rw [hres] at hX
              have HN2 := Lib.hid hN2
              have HX2 : Hid (X = bnd (rtoks (N - (i + 1)) (b.drop q3)) fun zs l => .ok ((ys ++ [⟨0, 0, kk / 4, m⟩]) ++ zs, l)) := Lib.hid (by rw [HD.out, ← bnd_snoc]; exact hX)
              clear hres hX hbt hGt hKt hCt hN2 HX HN
              go_wp2_with (first
                | (go_at_call 131; refine HN2.out.mono ?_; rintro e w4 ⟨rfl, hk, hg⟩; have HK4 := Lib.hid hk; have hT4 : TokAt w4 w3.heap.size ⟨0, 0, kk / 4, 0⟩ := (hg.block _ HTK.out.lt (by intro e; have e2 := Option.some.inj e; have := HK3.out.lt; omega)).trans HTK.out; have d0 := hT4.c0; have d1 := hT4.c1; have d2 := hT4.c2; have d3 := hT4.c3; have df := hT4.f 3; have HG4 := Lib.hid (HGT.out.trans hg); have HT4 := Lib.hid (TR.over HT3.out ((grown_of_below HBT.out _).trans hg) (by omega) w3.heap.size 3 (.int .i64 m) (Nat.le_refl _)); have HR4 := Lib.hid ((HR3.out.grown (grown_of_below HBT.out _) hPl).grown hg hPl); have HZ4 : Hid (w3.heap.size < w4.heap.size) := Lib.hid hT4.lt; clear hk hg hT4)
                | (at_builtin; refine TR.push_ev (w := w4.setCell ⟨w3.heap.size, 3, none⟩ (.int .i64 m)) (N := w4.heap.size) (by simp [World.setCell]) HT4.out rfl (.tmp 36) (.tmp 38) rfl rfl rfl (by have := HR4.out.lt; simp [World.setCell]; omega) (by omega) ?_; intro v5 w5 hr5 hb5; have HT5 := Lib.hid hr5; have HG5 := Lib.hid (grown_onB (grown_setT HG4.out w3.heap.size 3 (.int .i64 m) HG3.out.size) hb5 (Nat.le_succ _)); have HR5 : Hid (PtrAt w5 w.heap.size P) := Lib.hid ((hb5.block _ (Nat.lt_succ_self _)).trans ((Below.heap_setCell w4 _ _ _ (by have := HR3.out.lt; show w.heap.size ≠ w3.heap.size; omega)).trans HR4.out)); have HK5 : Hid (SpotAt w5 P A c b.length q3) := Lib.hid ((hb5.block _ (by omega)).trans ((Below.heap_setCell w4 _ _ _ (by have := HK3.out.lt; show P ≠ w3.heap.size; omega)).trans HK4.out)); clear hr5 hb5))
              go_roundg (N - (i + 1))
              case measure => omega
              case rel => exact ⟨i + 1, q3, ys ++ [⟨0, 0, kk / 4, m⟩], by go_num, by omega, rfl, hq3, by rw [List.length_append, hyl]; rfl, HX2, HT5, HK5, HG5, HR5⟩
          · have hX := HX.out
            rw [HA.out, if_neg (by decide), if_pos (by decide)] at hX
            have hbt : Below w3.heap.size w3 (w3.alloc (.cells #[.int .i64 1, .int .i64 0, .int .i64 (kk / 4), .int .i64 0] 111)) := (Below.refl _ _).alloc (Nat.le_refl _) _
            have HTK : Hid (TokAt (w3.alloc (.cells #[.int .i64 1, .int .i64 0, .int .i64 (kk / 4), .int .i64 0] 111)) w3.heap.size ⟨1, 0, kk / 4, 0⟩) := Lib.hid (World.alloc_heap_new w3 _)
            have hGt : w.grownBy (w3.alloc (.cells #[.int .i64 1, .int .i64 0, .int .i64 (kk / 4), .int .i64 0] 111)) (some P) := HG3.out.trans (grown_of_below hbt _)
            have hKt := HK3.out.grownB hbt HK3.out.lt
            have rt := (HR3.out.grown (grown_of_below hbt _) hPl).c0
            have hCt := HG0.out _ hGt
            have HGT := Lib.hid hGt
            have HBT := Lib.hid hbt
            rcases hres : rnum 2147483647 (b.drop q2) with f | ⟨m, r⟩
            · rw [hres] at hX
              have HN2 := Lib.hid (snum_err hKt hCt hc HBB.out hq2 2147483647 (by decide) (by decide) f hres)
              have HX2 := Lib.hid (show X = .error f from hX)
              clear hres hX hbt hGt hKt hCt HX HTK
              go_wp2_with (go_at_call 131; refine HN2.out.mono ?_; rintro e w4 ⟨rfl, hg⟩; have HG4 := Lib.hid (HGT.out.trans hg); clear hg)
              exact ⟨rfl, RdP.err HX2.out HG4.out⟩
            · obtain ⟨q3, hq3, rfl, hql3, hm0, hm1⟩ := rnum_rest HBB.out hq2 hres
              have hN2 := snum_ok hKt hCt hc HBB.out hq2 2147483647 (by decide) (by decide) m _ hres
              rw [hql3] at hN2
              rw [hres] at hX
              have HN2 := Lib.hid hN2
              have HX2 : Hid (X = bnd (rtoks (N - (i + 1)) (b.drop q3)) fun zs l => .ok ((ys ++ [⟨1, m, kk / 4, 0⟩]) ++ zs, l)) := Lib.hid (by rw [HD.out, ← bnd_snoc]; exact hX)
              clear hres hX hbt hGt hKt hCt hN2 HX HN
              go_wp2_with (first
                | (go_at_call 131; refine HN2.out.mono ?_; rintro e w4 ⟨rfl, hk, hg⟩; have HK4 := Lib.hid hk; have hT4 : TokAt w4 w3.heap.size ⟨1, 0, kk / 4, 0⟩ := (hg.block _ HTK.out.lt (by intro e; have e2 := Option.some.inj e; have := HK3.out.lt; omega)).trans HTK.out; have d0 := hT4.c0; have d1 := hT4.c1; have d2 := hT4.c2; have d3 := hT4.c3; have df := hT4.f 1; have HG4 := Lib.hid (HGT.out.trans hg); have HT4 := Lib.hid (TR.over HT3.out ((grown_of_below HBT.out _).trans hg) (by omega) w3.heap.size 1 (.int .i64 m) (Nat.le_refl _)); have HR4 := Lib.hid ((HR3.out.grown (grown_of_below HBT.out _) hPl).grown hg hPl); have HZ4 : Hid (w3.heap.size < w4.heap.size) := Lib.hid hT4.lt; clear hk hg hT4)
                | (at_builtin; refine TR.push_ev (w := w4.setCell ⟨w3.heap.size, 1, none⟩ (.int .i64 m)) (N := w4.heap.size) (by simp [World.setCell]) HT4.out rfl (.tmp 36) (.tmp 38) rfl rfl rfl (by have := HR4.out.lt; simp [World.setCell]; omega) (by omega) ?_; intro v5 w5 hr5 hb5; have HT5 := Lib.hid hr5; have HG5 := Lib.hid (grown_onB (grown_setT HG4.out w3.heap.size 1 (.int .i64 m) HG3.out.size) hb5 (Nat.le_succ _)); have HR5 : Hid (PtrAt w5 w.heap.size P) := Lib.hid ((hb5.block _ (Nat.lt_succ_self _)).trans ((Below.heap_setCell w4 _ _ _ (by have := HR3.out.lt; show w.heap.size ≠ w3.heap.size; omega)).trans HR4.out)); have HK5 : Hid (SpotAt w5 P A c b.length q3) := Lib.hid ((hb5.block _ (by omega)).trans ((Below.heap_setCell w4 _ _ _ (by have := HK3.out.lt; show P ≠ w3.heap.size; omega)).trans HK4.out)); clear hr5 hb5))
              go_roundg (N - (i + 1))
              case measure => omega
              case rel => exact ⟨i + 1, q3, ys ++ [⟨1, m, kk / 4, 0⟩], by go_num, by omega, rfl, hq3, by rw [List.length_append, hyl]; rfl, HX2, HT5, HK5, HG5, HR5⟩
          · have hX := HX.out
            rw [HA.out, if_neg (by decide), if_neg (by decide)] at hX
            have HX2 : Hid (X = bnd (rtoks (N - (i + 1)) (b.drop q2)) fun zs l => .ok ((ys ++ [⟨2, 0, kk / 4, 0⟩]) ++ zs, l)) := Lib.hid (by rw [HD.out, ← bnd_snoc]; exact hX)
            have hbt : Below w3.heap.size w3 (w3.alloc (.cells #[.int .i64 2, .int .i64 0, .int .i64 (kk / 4), .int .i64 0] 111)) := (Below.refl _ _).alloc (Nat.le_refl _) _
            have HKT := Lib.hid (HK3.out.grownB hbt HK3.out.lt)
            have HGT := Lib.hid (HG3.out.trans (grown_of_below hbt (some P)))
            have HRT := Lib.hid (HR3.out.grown (grown_of_below hbt _) hPl)
            have HTT := Lib.hid (HT3.out.grown (grown_of_below hbt (some P)) (by omega))
            have HZT : Hid (w.heap.size + 1 ≤ (w3.alloc (.cells #[.int .i64 2, .int .i64 0, .int .i64 (kk / 4), .int .i64 0] 111)).heap.size) := Lib.hid HRT.out.lt
            clear hX hbt HX HN
            go_wp2_with (at_builtin; refine TR.push_ev (w := w3.alloc (.cells #[.int .i64 2, .int .i64 0, .int .i64 (kk / 4), .int .i64 0] 111)) (N := w3.heap.size + 1) (World.size_alloc _ _) HTT.out rfl (.tmp 36) (.tmp 38) rfl rfl rfl HZT.out (by omega) ?_; intro v5 w5 hr5 hb5; have HT5 := Lib.hid hr5; have HG5 := Lib.hid (grown_onB HGT.out hb5 (Nat.le_succ _)); have HR5 : Hid (PtrAt w5 w.heap.size P) := Lib.hid ((hb5.block _ (Nat.lt_succ_self _)).trans HRT.out); have HK5 : Hid (SpotAt w5 P A c b.length q2) := Lib.hid ((hb5.block _ (by omega)).trans HKT.out); clear hr5 hb5)
            go_roundg (N - (i + 1))
            case measure => omega
            case rel => exact ⟨i + 1, q2, ys ++ [⟨2, 0, kk / 4, 0⟩], by go_num, by omega, rfl, hq2, by rw [List.length_append, hyl]; rfl, HX2, HT5, HK5, HG5, HR5⟩
          · have hX := HX.out
            rw [HA.out, if_neg (by decide), if_pos (by decide)] at hX
            have hbt : Below w3.heap.size w3 (w3.alloc (.cells #[.int .i64 3, .int .i64 0, .int .i64 (kk / 4), .int .i64 0] 111)) := (Below.refl _ _).alloc (Nat.le_refl _) _
            have HTK : Hid (TokAt (w3.alloc (.cells #[.int .i64 3, .int .i64 0, .int .i64 (kk / 4), .int .i64 0] 111)) w3.heap.size ⟨3, 0, kk / 4, 0⟩) := Lib.hid (World.alloc_heap_new w3 _)
            have hGt : w.grownBy (w3.alloc (.cells #[.int .i64 3, .int .i64 0, .int .i64 (kk / 4), .int .i64 0] 111)) (some P) := HG3.out.trans (grown_of_below hbt _)
            have hKt := HK3.out.grownB hbt HK3.out.lt
            have rt := (HR3.out.grown (grown_of_below hbt _) hPl).c0
            have hCt := HG0.out _ hGt
            have HGT := Lib.hid hGt
            have HBT := Lib.hid hbt
            rcases hres : rnum 2147483647 (b.drop q2) with f | ⟨m, r⟩
            · rw [hres] at hX
              have HN2 := Lib.hid (snum_err hKt hCt hc HBB.out hq2 2147483647 (by decide) (by decide) f hres)
              have HX2 := Lib.hid (show X = .error f from hX)
              clear hres hX hbt hGt hKt hCt HX HTK
              go_wp2_with (go_at_call 131; refine HN2.out.mono ?_; rintro e w4 ⟨rfl, hg⟩; have HG4 := Lib.hid (HGT.out.trans hg); clear hg)
              exact ⟨rfl, RdP.err HX2.out HG4.out⟩
            · obtain ⟨q3, hq3, rfl, hql3, hm0, hm1⟩ := rnum_rest HBB.out hq2 hres
              have hN2 := snum_ok hKt hCt hc HBB.out hq2 2147483647 (by decide) (by decide) m _ hres
              rw [hql3] at hN2
              rw [hres] at hX
              have HN2 := Lib.hid hN2
              have HX2 : Hid (X = bnd (rtoks (N - (i + 1)) (b.drop q3)) fun zs l => .ok ((ys ++ [⟨3, m, kk / 4, 0⟩]) ++ zs, l)) := Lib.hid (by rw [HD.out, ← bnd_snoc]; exact hX)
              clear hres hX hbt hGt hKt hCt hN2 HX HN
              go_wp2_with (first
                | (go_at_call 131; refine HN2.out.mono ?_; rintro e w4 ⟨rfl, hk, hg⟩; have HK4 := Lib.hid hk; have hT4 : TokAt w4 w3.heap.size ⟨3, 0, kk / 4, 0⟩ := (hg.block _ HTK.out.lt (by intro e; have e2 := Option.some.inj e; have := HK3.out.lt; omega)).trans HTK.out; have d0 := hT4.c0; have d1 := hT4.c1; have d2 := hT4.c2; have d3 := hT4.c3; have df := hT4.f 1; have HG4 := Lib.hid (HGT.out.trans hg); have HT4 := Lib.hid (TR.over HT3.out ((grown_of_below HBT.out _).trans hg) (by omega) w3.heap.size 1 (.int .i64 m) (Nat.le_refl _)); have HR4 := Lib.hid ((HR3.out.grown (grown_of_below HBT.out _) hPl).grown hg hPl); have HZ4 : Hid (w3.heap.size < w4.heap.size) := Lib.hid hT4.lt; clear hk hg hT4)
                | (at_builtin; refine TR.push_ev (w := w4.setCell ⟨w3.heap.size, 1, none⟩ (.int .i64 m)) (N := w4.heap.size) (by simp [World.setCell]) HT4.out rfl (.tmp 36) (.tmp 38) rfl rfl rfl (by have := HR4.out.lt; simp [World.setCell]; omega) (by omega) ?_; intro v5 w5 hr5 hb5; have HT5 := Lib.hid hr5; have HG5 := Lib.hid (grown_onB (grown_setT HG4.out w3.heap.size 1 (.int .i64 m) HG3.out.size) hb5 (Nat.le_succ _)); have HR5 : Hid (PtrAt w5 w.heap.size P) := Lib.hid ((hb5.block _ (Nat.lt_succ_self _)).trans ((Below.heap_setCell w4 _ _ _ (by have := HR3.out.lt; show w.heap.size ≠ w3.heap.size; omega)).trans HR4.out)); have HK5 : Hid (SpotAt w5 P A c b.length q3) := Lib.hid ((hb5.block _ (by omega)).trans ((Below.heap_setCell w4 _ _ _ (by have := HK3.out.lt; show P ≠ w3.heap.size; omega)).trans HK4.out)); clear hr5 hb5))
              go_roundg (N - (i + 1))
              case measure => omega
              case rel => exact ⟨i + 1, q3, ys ++ [⟨3, m, kk / 4, 0⟩], by go_num, by omega, rfl, hq3, by rw [List.length_append, hyl]; rfl, HX2, HT5, HK5, HG5, HR5⟩
      · obtain rfl : i = N := by omega
        have hX := HX.out
        rw [Nat.sub_self, rtoks, bnd_ok, List.append_nil] at hX
        have HXX := Lib.hid hX
        clear hX HX
        go_wp2
        go_ret
        exact RdP.ok HXX.out HG.out (Kd.R_lower HT.out (Nat.le_succ _)) HK.out (by rw [List.length_drop]; omega)
end Go.Proofs.Ytmbnjgnmblgjoaa.Man
