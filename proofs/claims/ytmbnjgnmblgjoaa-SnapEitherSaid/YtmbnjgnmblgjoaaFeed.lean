/- Feed of a chunk that is open: what it tells, and what waits then. -/
import Derived.Test.YtmbnjgnmblgjoaaChunk
namespace Go.Proofs.Ytmbnjgnmblgjoaa.Man
open Go.RowKit Go.Proofs.YtmbnjgnmblgjoaaW.PrintWords Go.Proofs.YtmbnjgnmblgjoaaW.PrintLast Go.Proofs.YtmbnjgnmblgjoaaW.PrintMore
set_option linter.unusedVariables false
set_option linter.unusedSimpArgs false
set_option maxRecDepth 100000

/-- The frames from a place on, up to the first that is none: the frames, the place, why. -/
def eat : Nat → List Int → Int → List (List Int) × Int × Int
  | 0, _, at_ => ([], at_, 3)
  | k + 1, ws, at_ => if (openF ws at_).2.2 = 0 then ((openF ws at_).1 :: (eat k ws (openF ws at_).2.1).1, (eat k ws (openF ws at_).2.1).2) else ([], at_, (openF ws at_).2.2)
theorem openF_ok (b : List Int) (at_ : Int) (hB : areBytesN b = true) (h : (openF b at_).2.2 = 0) : 0 ≤ at_ ∧ at_ + 4 ≤ (openF b at_).2.1 ∧ (openF b at_).2.1 ≤ b.length := by
  have hg := getF_range b at_ hB
  unfold openF at h ⊢
  by_cases h0 : (getF b at_).2.2 ≠ 0
  · rw [if_pos h0] at h; exact absurd h h0
  have hg := hg (by omega)
  rw [if_neg h0] at h ⊢
  by_cases h1 : 65536 < (getF b at_).1
  · rw [if_pos h1] at h; cases h
  rw [if_neg h1] at h ⊢
  by_cases h2 : (b.length : Int) - (getF b at_).2.1 < (getF b at_).1 + 4
  · rw [if_pos h2] at h; cases h
  rw [if_neg h2] at h ⊢
  split at h
  · cases h
  · rename_i h3
    rw [if_neg h3]
    simp only
    omega
theorem eat_fuel (ws : List Int) (hB : areBytesN ws = true) : ∀ (k k' : Nat) (at_ : Int), at_ ≤ ws.length → (ws.length : Int) - at_ < k → (ws.length : Int) - at_ < k' → eat k ws at_ = eat k' ws at_
  | 0, _, at_, h0, h, _ => by omega
  | _ + 1, 0, at_, h0, _, h => by omega
  | k + 1, k' + 1, at_, h0, h1, h2 => by
    rw [eat, eat]
    by_cases hok : (openF ws at_).2.2 = 0
    · have := openF_ok ws at_ hB hok
      rw [if_pos hok, if_pos hok, eat_fuel ws hB k k' (openF ws at_).2.1 (by omega) (by omega) (by omega)]
    · rw [if_neg hok, if_neg hok]
def eatAll (ws : List Int) : List (List Int) × Int × Int := eat (ws.length + 1) ws 0
def feedE (ws : List Int) : Int := if (eatAll ws).2.2 = 3 then 0 else (eatAll ws).2.2
def feedH (ws : List Int) : Int := if (eatAll ws).2.2 = 3 then 1 else 2
def feedW (ws : List Int) : List Int := if (eatAll ws).2.2 = 3 then ws.drop (eatAll ws).2.1.toNat else []

/-- Rows of bytes, told. -/
abbrev OUT (w : World) (base : Nat) (v : Value) (os : List (List Int)) : Prop := Kd.R (Kd.slice 5 (Kd.int .u8)) 27 w base (fun _ => True) v os
theorem info_row : (Try.prog.info? 27).map (fun i => (i.zero, i.size, i.bytes)) = some (some (.slice none 0 0), 1, 24) := by kernel_rfl
theorem OUT.push_ev {ops : Array Oper} {rest : List Oper} {o : Oper} {a : Act} {Q : Exit → Act → World → Prop} {w : World} {base : Nat} {v : Value} {os : List (List Int)} {x : List Int} {xv : Value}
    (h : OUT w base v os) (hx0 : Kd.R (Kd.int .u8) 5 w base (fun k => some k ≠ v.ownBlock) xv x) (hgd : o.guard = none) (s xo : Operand) (ho : o.op = .call { callee := .builtin .append, args := #[s, xo], argTypes := #[41, 41] })
    (hs : a.eval s = v) (hx : a.eval xo = .slice (some ⟨w.heap.size, 0, none⟩) 1 1) (hbase : base ≤ w.heap.size) (hl : os.length + 1 ≤ 4194304)
    (k : ∀ v1 w1, OUT w1 base v1 (os ++ [x]) → Below base w w1 → w.grownBy w1 v.ownBlock → wpList Try.prog ops Q rest (a.put o.dst v1) w1) : wpList Try.prog ops Q (o :: rest) a (w.alloc (.cells #[xv] 27)) :=
  Kd.R_append (Kd.slice 5 (Kd.int .u8)) (w0 := w) base hgd s xo 41 27 (.slice none 0 0) 24 ho Try.underlying41 info_row rfl (by decide) (by omega) v os x [xv] (fun _ => True) (fun k => some k ≠ v.ownBlock) hs hx ⟨xv, rfl, hx0⟩ (fun _ h => ⟨trivial, h⟩) (fun _ _ => trivial) h (Below.refl _ _) hbase (by omega)
    (fun v1 w1 h1 h2 h3 h4 => k v1 w1 h1 h2 h3)

/-- The bytes that wait, and those that come, in one row. -/
theorem splice_two (n m : Nat) (a b z : List Value) (ha : a.length = n) (hb : b.length = m) (hz : z.length = n + m) : splice (splice z 0 a) n b = a ++ b := by
  subst ha; subst hb
  have e : splice z 0 a = a ++ z.drop a.length := by simp [splice]
  rw [e]
  unfold splice
  rw [List.take_left, List.drop_append, List.drop_of_length_le (by omega), List.nil_append, List.drop_drop]
  rw [List.drop_of_length_le (l := z) (by omega), List.append_nil]

/-- x[i:n:n] of a row that is read. -/
theorem cut3 (A : Option Addr) (n c i : Nat) (hin : i ≤ n) (hnc : n ≤ c) : ∃ A' : Option Addr, (∀ W : World, (Instr.slice 27 (.slice A n c) (some (.int .i64 (i : Int))) (some (.int .i64 (n : Int))) (some (.int .i64 (n : Int)))).run Try.prog W = .ok (.slice A' (n - i) (n - i)) W) ∧
    (∀ (w : World) (xs : List Int), Kd.C (Kd.int .u8) w A n xs → Kd.C (Kd.int .u8) w A' (n - i) (xs.drop i)) ∧ (∀ l c k, Value.ownBlock (.slice A' l c) = some k → Value.ownBlock (.slice A l c) = some k) := by
  obtain ⟨i0, hi0, hsz0⟩ : ∃ i0, Try.prog.info? 5 = some i0 ∧ i0.size = 1 := by obtain ⟨i0, h, _, h2, _⟩ := info_parts info_u8; exact ⟨i0, h, h2⟩
  refine ⟨if n = i then A else A.map (·.add i), fun W => ?_, fun w xs h => ?_, fun l c k hk => ?_⟩
  · have hel : Try.prog.elem 27 = 5 := by simp [Program.elem, Try.underlying27]
    have hu : Try.prog.underlying 27 = some (.slice (Try.prog.elem 27)) := by rw [hel]; exact Try.underlying27
    rw [run_slice_lhm W 27 A n c hu .i64 .i64 .i64 (i : Int) (n : Int) (n : Int) (by omega) (by omega) (by omega) (by omega), hel]
    simp [sizeOf, typeInfo, hi0, hsz0, sliced, Result.andThen]
  · have hR := Kd.reads_of_C (enc := Value.int .u8) (d := (0 : Int)) (h1 := fun _ => rfl) h
    exact Kd.C_of_reads (d := (0 : Int)) (h1 := fun _ => rfl) (hR.drop_ (c := n) i hin (Nat.le_refl _))
  · split at hk
    · exact hk
    · cases A with
      | none => cases hk
      | some a =>
        have hb : (a.add i).block = a.block := by unfold Addr.add; split <;> rfl
        simpa [Value.ownBlock, hb] using hk

theorem C_block {w : World} {g : Nat} {ws : List Int} (h : w.heap[g]? = some (.cells (encs (Value.int .u8) ws).toArray 5 (0, 0))) (hl : ws.length ≤ 9223372036854775807) : Kd.C (Kd.int .u8) w (some ⟨g, 0, none⟩) ws.length ws :=
  Kd.C_of_reads (d := (0 : Int)) (h1 := fun _ => rfl) ⟨rfl, hl, fun _ => ⟨_, rfl, fun j hj => by
    rw [Addr.add_lit, Nat.zero_add, cell_of_row _ g _ _ _ (0, 0) h]
    have := encs_get (enc := Value.int .u8) (d := (0 : Int)) ws j hj
    simpa using this⟩⟩
theorem grown_below {w w1 w2 : World} {row : Option Nat} (hg : w.grownBy w1 row) (hb : Below w.heap.size w1 w2) : w.grownBy w2 row :=
  ⟨hb.os.trans hg.os, hb.tape.trans hg.tape, hb.output.trans hg.output, Nat.le_trans hg.size hb.size, fun i hi hne => (hb.block i hi).trans (hg.block i hi hne)⟩

set_option maxHeartbeats 8000000 in
theorem feed_is {w : World} {B : Nat} {n : Int} {v : Value} {xs ys : List Int} (k : ChunkS w B 1 v xs n) (A : Option Addr) (c : Nat) (hr : Kd.C (Kd.int .u8) w A ys.length ys) (hc : ys.length ≤ c) (hy : areBytesN ys = true) (hl : xs.length + ys.length ≤ 4194304) (hn0 : 0 ≤ n) (hn1 : n ≤ 4611686018427387904) :
    Calls Try.prog 42 #[.pointer (some ⟨B, 0, none⟩), .slice A ys.length c] w fun e w' => ∃ o v', e = .returned (.tuple #[o, .int .i64 (feedE (xs ++ ys))]) ∧ OUT w' w.heap.size o (eatAll (xs ++ ys)).1 ∧
      ChunkS w' B (feedH (xs ++ ys)) v' (feedW (xs ++ ys)) (n + ((eatAll (xs ++ ys)).1.length : Int)) ∧ w.grownBy w' (some B) := by
  have hBw : areBytesN (xs ++ ys) = true := areBytesN_append k.bytes hy
  obtain ⟨ws, hws⟩ : ∃ ws, xs ++ ys = ws := ⟨_, rfl⟩
  have hlw : xs.length + ys.length = ws.length := by rw [← hws, List.length_append]
  have hlw2 : ws.length ≤ 4194304 := by omega
  rw [hws] at hBw ⊢
  have HBW := Lib.hid hBw
  have HWS := Lib.hid hws
  have HLW := Lib.hid hlw
  obtain ⟨A', c', rfl, hc', hr'⟩ := k.row
  clear hBw hws hlw
  have c1 := k.at_.c1
  have hBlt := k.at_.lt
  have K := Lib.hid k
  have HR := Lib.hid hr
  have HR' := Lib.hid hr'
  have HY := Lib.hid hy
  clear k hr hr' hy
  have hmk0 := print_make (P := Try.prog) 27 5 .u8 1 Try.underlying27 info_u8 (by decide) (xs.length + ys.length) (by omega)
  have hmk : ∀ W : World, (Instr.makeSlice 27 (.int .i64 ((xs.length : Int) + (ys.length : Int))) (.int .i64 ((xs.length : Int) + (ys.length : Int)))).run Try.prog W = .ok (.slice (some ⟨W.heap.size, 0, none⟩) (xs.length + ys.length) (xs.length + ys.length)) (W.alloc (.cells (madeCells #[.int .u8 0] (xs.length + ys.length)) 5)) := fun W => by
    have := hmk0 W
    rwa [Int.natCast_add] at this
  have hbe : Below w.heap.size w (w.alloc (.cells (madeCells #[.int .u8 0] (xs.length + ys.length)) 5)) := (Below.refl _ _).alloc (Nat.le_refl _) _
  have HE := Lib.hid hbe
  have a1 : (w.alloc (.cells (madeCells #[.int .u8 0] (xs.length + ys.length)) 5)).cell? ⟨B, 1, none⟩ = some (.slice A' xs.length c') := (hbe.cell (p := ⟨B, 1, none⟩) hBlt).trans c1
  obtain ⟨i0, hi0, hsz0⟩ : ∃ i0, Try.prog.info? 5 = some i0 ∧ i0.size = 1 := by obtain ⟨i0, h, _, h2, _⟩ := info_parts info_u8; exact ⟨i0, h, h2⟩
  have hcut0 := run_slice_l (P := Try.prog)
  obtain ⟨As, hcs, hAs⟩ : ∃ As : Option Addr, (∀ W : World, (Instr.slice 27 (.slice (some ⟨w.heap.size, 0, none⟩) (xs.length + ys.length) (xs.length + ys.length)) (some (.int .i64 (xs.length : Int))) none none).run Try.prog W = .ok (.slice As ys.length ys.length) W) ∧ (0 < ys.length → As = some ⟨w.heap.size, xs.length, none⟩) := by
    refine ⟨if xs.length + ys.length = xs.length then some ⟨w.heap.size, 0, none⟩ else (some (⟨w.heap.size, 0, none⟩ : Addr)).map (·.add xs.length), fun W => ?_, fun h0 => ?_⟩
    · have hel : Try.prog.elem 27 = 5 := by simp [Program.elem, Try.underlying27]
      have hu : Try.prog.underlying 27 = some (.slice (Try.prog.elem 27)) := by rw [hel]; exact Try.underlying27
      rw [run_slice_l W 27 (some ⟨w.heap.size, 0, none⟩) (xs.length + ys.length) (xs.length + ys.length) hu .i64 (xs.length : Int) (Int.natCast_nonneg _) (by omega), hel]
      simp [sizeOf, typeInfo, hi0, hsz0, sliced, Result.andThen]
    · rw [if_neg (by omega)]
      simp [Addr.add_lit]
  obtain ⟨cx, hcx⟩ : ∃ cx, encs (Value.int .u8) xs = cx := ⟨_, rfl⟩
  obtain ⟨cy, hcy⟩ : ∃ cy, encs (Value.int .u8) ys = cy := ⟨_, rfl⟩
  have hlx : cx.length = xs.length := by rw [← hcx, encs_length]
  have hly : cy.length = ys.length := by rw [← hcy, encs_length]
  have hox : ∀ u ∈ cx, u.oneCell' = true := by rw [← hcx]; intro u hu; simp only [encs, List.mem_map] at hu; obtain ⟨q, _, rfl⟩ := hu; rfl
  have hoy : ∀ u ∈ cy, u.oneCell' = true := by rw [← hcy]; intro u hu; simp only [encs, List.mem_map] at hu; obtain ⟨q, _, rfl⟩ := hu; rfl
  have rdx : ∀ W : World, Below w.heap.size w W → 0 < cx.length → ∃ ad, A' = some ad ∧ ∀ j u, cx[j]? = some u → W.cell? (ad.add j) = some u := fun W hb h0 => by
    have hR := Kd.reads_of_C (enc := Value.int .u8) (d := (0 : Int)) (h1 := fun _ => rfl) (Kd.C_below HR'.out hb)
    obtain ⟨ad, e, hcell⟩ := hR.2.2 (by omega)
    refine ⟨ad, e, fun j u hj => ?_⟩
    have hjl : j < xs.length := by rw [← hlx]; exact (List.getElem?_eq_some_iff.1 hj).1
    rw [← hcx, encs_get (d := (0 : Int)) xs j hjl] at hj
    rw [← hj]; exact hcell j hjl
  have rdy : ∀ W : World, Below w.heap.size w W → 0 < cy.length → ∃ ad, A = some ad ∧ ∀ j u, cy[j]? = some u → W.cell? (ad.add j) = some u := fun W hb h0 => by
    have hR := Kd.reads_of_C (enc := Value.int .u8) (d := (0 : Int)) (h1 := fun _ => rfl) (Kd.C_below HR.out hb)
    obtain ⟨ad, e, hcell⟩ := hR.2.2 (by omega)
    refine ⟨ad, e, fun j u hj => ?_⟩
    have hjl : j < ys.length := by rw [← hly]; exact (List.getElem?_eq_some_iff.1 hj).1
    rw [← hcy, encs_get (d := (0 : Int)) ys j hjl] at hj
    rw [← hj]; exact hcell j hjl
  have HCX := Lib.hid hcx
  have HCY := Lib.hid hcy
  have HLX := Lib.hid hlx
  have HLY := Lib.hid hly
  have HOX := Lib.hid hox
  have HOY := Lib.hid hoy
  have HRX := Lib.hid rdx
  have HRY := Lib.hid rdy
  have HAS := Lib.hid hAs
  clear hmk0 hbe hcx hcy hlx hly hox hoy rdx rdy hAs hi0 hsz0 hcut0
  go_enter Try.func42, Try.ntmps42
  go_upto_region 5 with (first
    | (go_at_call 101; refine (may_is K.out).mono ?_; rintro e w' ⟨rfl, rfl⟩))
  have hmkl : (madeCells #[.int .u8 0] (xs.length + ys.length)).toList.length = xs.length + ys.length := by rw [Array.length_toList, size_madeCells]
  obtain ⟨z, hz⟩ : ∃ z, madeCells #[.int .u8 0] (xs.length + ys.length) = z := ⟨_, rfl⟩
  rw [hz] at HE a1 hmkl ⊢
  clear hz hmk
  have hg0 : (w.alloc (.cells z 5)).heap[w.heap.size]? = some (.cells z.toList.toArray 5 (0, 0)) := World.alloc_heap_new w _
  have HG0 := Lib.hid hg0
  have HML := Lib.hid hmkl
  clear hg0 hmkl
  generalize hW : w.alloc (.cells z 5) = w1 at *
  clear hW
  go_upto_block 0 with (first
    | ((with_reducible refine wpList_copy_splice rfl (.tmp 28) (.tmp 32) 27 27 rfl 5 Try.underlying27 (by kernel_rfl) (some ⟨w.heap.size, 0, none⟩) A' (xs.length + ys.length) (xs.length + ys.length) xs.length c' rfl rfl w.heap.size 0 z.toList 5 HG0.out cx (by rw [HLX.out]; exact (Nat.min_eq_left (by omega)).symm) (fun h => ⟨rfl, HRX.out _ HE.out h⟩) (by rw [HML.out, HLX.out]; omega) HOX.out w.heap.size w HE.out (Nat.le_refl _) ?_); intro w2 hg2 hb2; have HB2 := Lib.hid hb2; rw [HLX.out]; clear hb2)
    | ((with_reducible refine wpList_copy_splice rfl (.tmp 34) (.tmp 35) 27 27 rfl 5 Try.underlying27 (by kernel_rfl) As A ys.length ys.length ys.length c rfl rfl w.heap.size xs.length (splice z.toList 0 cx) 5 hg2.out cy (by rw [HLY.out]; exact (Nat.min_self _).symm) (fun h => ⟨HAS.out (by rw [← HLY.out]; exact h), HRY.out _ HB2.out h⟩) (by rw [length_splice _ _ _ (by rw [HML.out, HLX.out]; omega), HML.out, HLY.out]; omega) HOY.out w.heap.size w HB2.out (Nat.le_refl _) ?_); intro w3 hg3 hb3; have HB3 := Lib.hid hb3; rw [HLY.out]; clear hb3))
  rw [HLW.out]
  have hws3 : w3.heap[w.heap.size]? = some (.cells (encs (Value.int .u8) ws).toArray 5 (0, 0)) := by
    have := hg3.out
    rwa [splice_two xs.length ys.length cx cy z.toList HLX.out HLY.out HML.out, ← HCX.out, ← HCY.out, ← encs_append, HWS.out] at this
  have HW3 := Lib.hid hws3
  have HK3 := Lib.hid (K.out.at_.move (HB3.out.block _ hBlt))
  have HB3 := Lib.hid HB3.out
  clear hws3 hg2 hg3 HB2 HG0 HML HAS HRX HRY HOX HOY HCX HCY HLX HLY a1 HE hcs
  have hg3 : Hid (w.grownBy w3 (some B)) := Lib.hid (grown_of_below HB3.out _)
  clear HB3
  go_wp2_with (fail)
  go_loopg [8, 9] (ws.length + 1) (fun g s8 s9 wr => ∃ (at_ : Nat) (os : List (List Int)), s9 = .int .i64 at_ ∧ at_ ≤ ws.length ∧ ws.length - at_ < g ∧ os.length ≤ at_ ∧ Hid (OUT wr w.heap.size s8 os) ∧ Hid (ChunkAt wr B 1 (.slice A' xs.length c') (n + (os.length : Int))) ∧ Hid ((os ++ (eat g ws at_).1, (eat g ws at_).2) = eatAll ws) ∧ Hid (w.grownBy wr (some B)) ∧ Hid (wr.heap[w.heap.size]? = some (.cells (encs (Value.int .u8) ws).toArray 5 (0, 0))))
  case atStart => exact ⟨0, [], rfl, by omega, by omega, by simp, Lib.hid (Kd.R_nil _ _ _ _ _), Lib.hid (by simpa using HK3.out), Lib.hid (by simp [eatAll]), hg3, HW3⟩
  case round =>
    clear HK3 HW3 hg3
    obtain ⟨at_, os, rfl, hat, hgk, hos, HO, HK, HQ, HG, HW⟩ := hrel
    obtain ⟨k, rfl⟩ : ∃ k, gk = k + 1 := ⟨gk - 1, by omega⟩
    obtain ⟨A8, k8, rfl, hk8, _⟩ := Kd.R_reads HO.out
    have HC : Hid (Kd.C (Kd.int .u8) wr (some ⟨w.heap.size, 0, none⟩) ws.length ws) := Lib.hid (C_block HW.out (by omega))
    have hok := openF_ok ws (at_ : Int) HBW.out
    obtain ⟨R, hR⟩ : ∃ R, openF ws (at_ : Int) = R := ⟨_, rfl⟩
    rw [hR] at hok
    have HRR := Lib.hid hR
    clear hR
    obtain ⟨x, nx, er⟩ := R
    simp only at hok
    have hQ := HQ.out
    rw [eat, HRR.out] at hQ
    simp only at hQ
    have HQ2 := Lib.hid hQ
    clear hQ HQ
    by_cases h0 : er = 0
    · obtain ⟨_, hn1, hn2⟩ := hok h0
      obtain ⟨nx, rfl⟩ : ∃ q : Nat, nx = (q : Int) := ⟨nx.toNat, by omega⟩
      subst h0
      have hQ3 := HQ2.out
      rw [if_pos rfl] at hQ3
      have HQ3 := Lib.hid hQ3
      clear hQ3 HQ2
      clear hok
      have hos4 : os.length + 1 ≤ 4194304 := by omega
      go_wp2_with (first
        | (go_at_call 22; refine (open_any (some ⟨w.heap.size, 0, none⟩) ws.length ws (at_ : Int) _ HC.out (Nat.le_refl _) HBW.out (by omega)).mono ?_; rintro e w4 ⟨xv, rfl, hx, hb⟩; rw [HRR.out] at hx ⊢; obtain ⟨A4, k4, rfl, hk4, _⟩ := BR.len hx; have hx5 := Kd.R_lower (Kd.R_mono (Kd.R_new hx (Kd.R_own HO.out).choose_spec) (fun k h => h.2)) HG.out.size; have HX4 := Lib.hid hx5; have HO4 := Lib.hid (Kd.R_below HO.out hb); have HK4 := Lib.hid (HK.out.move (hb.block _ HK.out.lt)); have HG4 := Lib.hid (HG.out.trans (grown_of_below hb _)); have HW4 := Lib.hid ((hb.block _ (blk_lt HW.out)).trans HW.out); clear hx hb hx5 hk4)
        | (at_builtin; refine OUT.push_ev (w := w4) HO4.out HX4.out rfl (.tmp 47) (.tmp 49) rfl rfl rfl HG4.out.size (by omega) ?_; intro v5 w5 ho hb hg; have h5 := HK4.out.move (hg.block _ HK4.out.lt (Kd.R_ne HO4.out HK4.out (by decide))); have k2 := h5.c2; have g2 := h5.f 2; have HK5 := Lib.hid h5; have HO5 := Lib.hid ho; have HB5 := Lib.hid hb; have HG5 := Lib.hid hg; clear ho hb hg h5))
      have hset : ∀ u, OUT (w5.setCell ⟨B, 2, none⟩ u) w.heap.size v5 (os ++ [x]) := fun u => Kd.R_set HO5.out HK5.out (by decide) 2 u
      have hne2 : w.heap.size ≠ B := by omega
      go_roundg k
      case measure => omega
      case rel =>
        refine ⟨nx, os ++ [x], rfl, by omega, by omega, by rw [List.length_append, List.length_singleton]; omega, Lib.hid (hset _), Lib.hid ?_, Lib.hid ?_, Lib.hid ?_, Lib.hid ?_⟩
        · have := HK5.out.put2 (n + (os.length : Int) + 1)
          rw [List.length_append, List.length_singleton, show (n + ((os.length + 1 : Nat) : Int)) = n + (os.length : Int) + 1 by omega]
          exact this
        · rw [← HQ3.out]
          simp
        · exact grownBy_set _ _ _ _ (grown_below HG4.out HB5.out)
        · refine (Below.heap_setCell _ _ _ _ hne2).trans ((HG5.out.block _ (blk_lt HW4.out) (Kd.R_ne HO4.out HW4.out (by decide))).trans HW4.out)
    · have hQ3 := HQ2.out
      rw [if_neg h0] at hQ3
      have HQ3 := Lib.hid hQ3
      clear hQ3 HQ2 hok
      by_cases h3 : er = 3
      · subst h3
        clear h0
        obtain ⟨Ac, hcut, hcutC, hcutB⟩ := cut3 (some ⟨w.heap.size, 0, none⟩) ws.length ws.length at_ hat (Nat.le_refl _)
        have HCC := Lib.hid hcutC
        have HCB := Lib.hid hcutB
        clear hcutC hcutB
        go_wp2_with (go_at_call 22; refine (open_any (some ⟨w.heap.size, 0, none⟩) ws.length ws (at_ : Int) _ HC.out (Nat.le_refl _) HBW.out (by omega)).mono ?_; rintro e w4 ⟨xv, rfl, hx, hb⟩; rw [HRR.out] at hx ⊢; obtain ⟨A4, k4, rfl, hk4, _⟩ := BR.len hx; have HO4 := Lib.hid (Kd.R_below HO.out hb); have h4 := HK.out.move (hb.block _ HK.out.lt); have c41 := h4.c1; have f41 := h4.f 1; have HK4 := Lib.hid h4; have HG4 := Lib.hid (HG.out.trans (grown_of_below hb _)); have HW4 := Lib.hid ((hb.block _ (blk_lt HW.out)).trans HW.out); clear hx hb hk4 h4)
        go_ret2
        have hQ := HQ3.out
        simp only [List.append_nil] at hQ
        have hE : feedE ws = 0 := by unfold feedE; rw [← hQ]; rfl
        have hH : feedH ws = 1 := by unfold feedH; rw [← hQ]; rfl
        have hW : feedW ws = ws.drop at_ := by unfold feedW; rw [← hQ]; simp
        have hO : (eatAll ws).1 = os := by rw [← hQ]
        rw [hE, hH, hW, hO]
        refine ⟨_, _, rfl, Kd.R_set HO4.out HK4.out (by decide) 1 _, ⟨HK4.out.put1 _, ⟨Ac, ws.length - at_, by rw [List.length_drop], by simp, ?_⟩, areBytesN_drop HBW.out _, fun j hj => ?_⟩, grownBy_set _ _ _ _ HG4.out⟩
        · have hne2 : w.heap.size ≠ B := by omega
          rw [List.length_drop]
          exact HCC.out _ _ (C_block ((Below.heap_setCell _ _ _ _ hne2).trans HW4.out) (by omega))
        · have hne2 : w.heap.size ≠ B := by omega
          have := HCB.out _ _ _ hj
          cases this
          exact ⟨_, (Below.heap_setCell _ _ _ _ hne2).trans HW4.out⟩
      · have h0b : (er == 0) = false := by simpa using h0
        have h0c : (er != 0) = true := by simpa using h0
        have h3b : (er == 3) = false := by simpa using h3
        have H3 := Lib.hid h3
        clear h0 h3
        go_wp2_with (first
          | (go_at_call 22; refine (open_any (some ⟨w.heap.size, 0, none⟩) ws.length ws (at_ : Int) _ HC.out (Nat.le_refl _) HBW.out (by omega)).mono ?_; rintro e w4 ⟨xv, rfl, hx, hb⟩; rw [HRR.out] at hx ⊢; obtain ⟨A4, k4, rfl, hk4, _⟩ := BR.len hx; have HO4 := Lib.hid (Kd.R_below HO.out hb); have h4 := HK.out.move (hb.block _ HK.out.lt); have c41 := h4.c1; have f41 := h4.f 1; have HK4 := Lib.hid h4; have HG4 := Lib.hid (HG.out.trans (grown_of_below hb _)); have HW4 := Lib.hid ((hb.block _ (blk_lt HW.out)).trans HW.out); have HS4 := Lib.hid (K.out.back HG4.out h4); clear hx hb hk4 h4)
          | (go_at_call 102; refine (end_is HS4.out).mono ?_; rintro e w6 ⟨rfl, hk6, hg6⟩; have HS6 := Lib.hid hk6; have HO6 := Lib.hid (Kd.R_mono (Kd.R_grown (Kd.R_types HO4.out HK4.out (by decide)) hg6 (fun k hk => by simpa using hk.2)) (fun _ _ => trivial)); have HG6 := Lib.hid (HG4.out.trans hg6); clear hk6 hg6))
        go_ret2
        have hQ := HQ3.out
        simp only [List.append_nil] at hQ
        have hE : feedE ws = er := by unfold feedE; rw [← hQ]; exact if_neg H3.out
        have hH : feedH ws = 2 := by unfold feedH; rw [← hQ]; exact if_neg H3.out
        have hW : feedW ws = [] := by unfold feedW; rw [← hQ]; exact if_neg H3.out
        have hO : (eatAll ws).1 = os := by rw [← hQ]
        rw [hE, hH, hW, hO]
        exact ⟨_, _, rfl, HO6.out, HS6.out, HG6.out⟩
end Go.Proofs.Ytmbnjgnmblgjoaa.Man
