/- JournalPlays (Upto): any acts (Append, Sync, Crash, Cut) on a journal over a disk that held any bytes tell, act by act, what the document's journal tells. Conditions: the statement's own, no others. -/
-- Laid together by a program of this session (wip/tools/shake.py). Not trusted: Lean checks it.
import Derived.Test.YtmbnjgnmblgjoaaJp0
section
namespace Go.Proofs.Ytmbnjgnmblgjoaa.Man
open Go.RowKit Go.Proofs.YtmbnjgnmblgjoaaW.PrintWords Go.Proofs.YtmbnjgnmblgjoaaW.PrintLast Go.Proofs.YtmbnjgnmblgjoaaW.PrintMore
set_option linter.unusedVariables false
set_option linter.unusedSimpArgs false
set_option maxRecDepth 100000
def WrAt (w : World) (B : Nat) (v : Value) : Prop := w.heap[B]? = some (.cells #[v] 129 (0, 0))
theorem WrAt.c0 {w : World} {B : Nat} {v : Value} (k : WrAt w B v) : w.cell? ⟨B, 0, none⟩ = some v := by simp [World.cell?, show w.heap[B]? = _ from k]
theorem WrAt.f {w : World} {B : Nat} {v : Value} (k : WrAt w B v) : w.frozen? ⟨B, 0, none⟩ = false := by simp [World.frozen?, show w.heap[B]? = _ from k]
theorem WrAt.lt {w : World} {B : Nat} {v : Value} (k : WrAt w B v) : B < w.heap.size := (Array.getElem?_eq_some_iff.1 k).1
theorem WrAt.put {w : World} {B : Nat} {v : Value} (k : WrAt w B v) (v' : Value) : WrAt (w.setCell ⟨B, 0, none⟩ v') B v' := by
 unfold WrAt World.setCell
 simp [Array.getElem?_modify, show w.heap[B]? = _ from k]
theorem WrAt.below {w w1 : World} {B m : Nat} {v : Value} (k : WrAt w B v) (h : Below m w w1) (hm : w.heap.size ≤ m) : WrAt w1 B v := ((h.mono hm).block _ k.lt).trans k
theorem C_moveK {K : IntKind} {w w1 : World} {A : Option Addr} {n : Nat} {xs : List Int} (hr : Kd.C (Kd.int K) w A n xs) (hm : ∀ ad, A = some ad → w1.heap[ad.block]? = w.heap[ad.block]?) : Kd.C (Kd.int K) w1 A n xs := by
 have hR := Kd.reads_of_C (enc := Value.int K) (d := (0 : Int)) (h1 := fun _ => rfl) hr
 refine Kd.C_of_reads (d := (0 : Int)) (h1 := fun _ => rfl) ⟨hR.1, hR.2.1, fun h0 => ?_⟩
 obtain ⟨ad, e, hc⟩ := hR.2.2 h0
 refine ⟨ad, e, fun j hj => ?_⟩
 rw [← hc j hj]
 have hb : (ad.add j).block = ad.block := by unfold Addr.add; split <;> rfl
 unfold World.cell?
 rw [hb, hm ad e]
structure WrS (w : World) (base B : Nat) (xs : List Int) : Prop where
 ex : ∃ v, WrAt w B v ∧ BR w base v xs
theorem WrS.lt {w : World} {base B : Nat} {xs : List Int} (h : WrS w base B xs) : B < w.heap.size := by
 obtain ⟨v, k, _⟩ := h.ex
 exact k.lt
theorem BR.set {w : World} {base B k : Nat} {v u : Value} {xs : List Int} (h : BR w base v xs) (hB : B < base) : BR (w.setCell ⟨B, k, none⟩ u) base v xs := by
 refine Kd.R_mono (Kd.R_grown (Kd.R_bound h) (grownBy_set w B k u (World.grownBy.refl w _)) (fun j hj e => ?_)) (fun _ _ => trivial)
 have h1 := hj.2.1
 cases e
 omega
theorem vbs_take_succ (l : List Int) (i : Nat) (h : i < l.length) : vbs (l.take (i + 1)) = vbs (l.take i) ++ vb (l.getD i 0).toNat := by
 rw [List.take_succ_eq_append_getElem h, vbs_snoc, getD_lt h]
theorem vbs_take_le (l : List Int) (i : Nat) : (vbs (l.take i)).length ≤ (vbs l).length := by
 have h : vbs l = vbs (l.take i) ++ vbs (l.drop i) := by
  conv => lhs; rw [← List.take_append_drop i l]
  unfold vbs
  rw [List.flatMap_append]
 rw [h, List.length_append]
 omega
set_option maxHeartbeats 8000000 in
theorem num_is {w : World} {base B : Nat} {xs : List Int} (hW : WrS w base B xs) (A : Option Addr) (c : Nat) (l : List Int) (hl : Kd.C (Kd.int .i64) w A l.length l) (hA : ∀ ad, A = some ad → ad.block ≠ B ∧ ad.block < w.heap.size)
 (hn : ∀ i, i < l.length → 0 ≤ l.getD i 0 ∧ l.getD i 0 < 9223372036854775808) (hroom : (xs ++ vbs l).length ≤ 140737488355328) (hbase : base ≤ w.heap.size) :
 Calls Try.prog 110 #[.pointer (some ⟨B, 0, none⟩), .slice A l.length c] w fun e w' => e = .returned (.tuple #[]) ∧ WrS w' base B (xs ++ vbs l) ∧ w.grownBy w' (some B) := by
 have hl1 : l.length ≤ 9223372036854775807 := hl.2.1
 have hCg : ∀ W, w.grownBy W (some B) → Kd.C (Kd.int .i64) W A l.length l := fun W h => C_moveK hl fun ad e => h.block _ (hA ad e).2 (by have := (hA ad e).1; intro e2; cases e2; exact this rfl)
 have hBl := hW.lt
 have HW := Lib.hid hW
 have HC := Lib.hid hCg
 have HN := Lib.hid hn
 clear hl hA hW hn hCg
 go_enter Try.func110, Try.ntmps110
 go_wp2
 go_loopg [8] l.length (fun g s8 wr => ∃ i : Nat, s8 = .int .i64 i ∧ i ≤ l.length ∧ g = l.length - i ∧ Hid (WrS wr base B (xs ++ vbs (l.take i))) ∧ Hid (w.grownBy wr (some B)))
 case atStart => exact ⟨0, rfl, Nat.zero_le _, rfl, Lib.hid (by simpa [vbs] using HW.out), Lib.hid (World.grownBy.refl w _)⟩
 case round =>
  obtain ⟨i, rfl, hi, hg, HX, HG⟩ := hrel
  have hsz : w.heap.size ≤ wr.heap.size := HG.out.size
  by_cases hlt : i < l.length
  · have e1 := vbs_take_succ l i hlt
    have e2 := vbs_take_le l (i + 1)
    obtain ⟨ad, ea, hc⟩ := Kd.at_int (HC.out _ HG.out) (i : Int) (by omega) (by omega)
    subst ea
    obtain ⟨hx0, hx1⟩ := HN.out i hlt
    have hrd : rd l (i : Int) = l.getD i 0 := rfl
    rw [hrd, Int.toNat_natCast] at hc
    clear hrd
    generalize l.getD i 0 = x at e1 hc hx0 hx1
    obtain ⟨n, rfl⟩ : ∃ n : Nat, x = (n : Int) := ⟨x.toNat, by omega⟩
    rw [Int.toNat_natCast] at e1
    rw [e1] at e2
    rw [List.length_append] at e2 hroom
    obtain ⟨ys, hys⟩ : ∃ ys, xs ++ vbs (l.take i) = ys := ⟨_, rfl⟩
    have hyl : (ys ++ vb n).length ≤ 140737488355328 := by rw [← hys, List.length_append, List.length_append]; omega
    have hye : xs ++ vbs (l.take (i + 1)) = ys ++ vb n := by rw [e1, ← hys, List.append_assoc]
    rw [hys] at HX
    obtain ⟨v, hk, hv⟩ := HX.out.ex
    obtain ⟨A1, k1, rfl, hk1, hC1⟩ := BR.len hv
    have HCY := Lib.hid hC1
    have c0 := hk.c0
    have HK := Lib.hid hk
    have hBw := hk.lt
    obtain ⟨zs, hzs⟩ : ∃ zs, ys ++ vb n = zs := ⟨_, rfl⟩
    have HZS := Lib.hid hzs
    rw [hzs] at hye
    have HE := Lib.hid hye
    have hU : IntKind.u64.wrap (n : Int) = (n : Int) := by rw [IntKind.wrap_u64]; omega
    have HBX := Lib.hid (C_box wr .u64 (n : Int) 90)
    have hbe : Below wr.heap.size wr (wr.alloc (.cells #[.int .u64 (n : Int)] 90)) := (Below.refl _ _).alloc (Nat.le_refl _) _
    have HBE := Lib.hid hbe
    have HUN := Lib.hid (u64_one n (by omega))
    have HYL : Hid ((ys ++ vbs [(n : Int)]).length ≤ 140737488355328) := Lib.hid (by rw [vbs_one]; exact hyl)
    clear hk hv hC1 hys e1 e2 hye hbe hzs hx0 hx1 hyl hroom
    go_wp2_with (go_at_call 89; refine (put_any A1 (some ⟨wr.heap.size, 0, none⟩) k1 1 ys [(n : Int)] _ (Kd.C_below HCY.out HBE.out) HBX.out HUN.out HYL.out).mono ?_; rintro e w1 ⟨v1, rfl, hr1, hb1⟩; rw [vbs_one, HZS.out] at hr1; obtain ⟨A2, k2, rfl, _, _⟩ := BR.len hr1; have HB1 := Lib.hid (HBE.out.trans (hb1.mono HBE.out.size)); have HR1 := Lib.hid (BR.set (k := 0) (u := .slice A2 zs.length k2) (B := B) (Kd.R_lower hr1 (Nat.le_refl _)) (Nat.lt_of_lt_of_le hBw HBE.out.size)); have HK1 := Lib.hid (HK.out.below HB1.out (Nat.le_refl _)); have f1 := HK1.out.f; have d1 := HK1.out.c0; clear hr1 hb1 hU c0 HUN)
    go_roundg (l.length - (i + 1))
    case measure => omega
    case rel => exact ⟨i + 1, by go_num, by omega, rfl, Lib.hid ⟨_, HK1.out.put _, by rw [HE.out]; exact Kd.R_lower HR1.out (by have := HBE.out.size; omega)⟩, Lib.hid (grownBy_set _ _ _ _ (HG.out.trans ⟨HB1.out.os, HB1.out.tape, HB1.out.output, HB1.out.size, fun j hj _ => HB1.out.block j hj⟩))⟩
  · obtain rfl : i = l.length := by omega
    rw [List.take_length] at HX
    go_wp2
    go_end0
    exact ⟨rfl, HX.out, HG.out⟩
end Go.Proofs.Ytmbnjgnmblgjoaa.Man
end
section
namespace Go.Proofs.YtmbnjgnmblgjoaaW.PrintWords
open Go.RowKit
section
variable {P : Program} {d : Nat} {xs ys : Array Value} {f : Field} {fs : List Field} {a b : Value} {r s : Bool} {w : World}
theorem eqf_last (hn : (f.name == "_") = false) (ha : (part f.type xs f.offset).run P w = .ok a w) (hb : (part f.type ys f.offset).run P w = .ok b w) (he : (Op.equalIn d f.type a b).run P w = .ok r w) : (Op.eqFields d xs ys [f]).run P w = .ok r w := by
 have hn' : f.name ≠ "_" := by simpa using hn
 simp only [Op.eqFields, if_pos hn', Sem.run_bind, ha, hb, he, Result.andThen_ok]
 cases r <;> simp
theorem eqf_cons (hn : (f.name == "_") = false) (ha : (part f.type xs f.offset).run P w = .ok a w) (hb : (part f.type ys f.offset).run P w = .ok b w) (he : (Op.equalIn d f.type a b).run P w = .ok r w) (hr : (Op.eqFields d xs ys fs).run P w = .ok s w) : (Op.eqFields d xs ys (f :: fs)).run P w = .ok (r && s) w := by
 have hn' : f.name ≠ "_" := by simpa using hn
 rw [Op.eqFields]
 simp only [if_pos hn', Sem.run_bind, ha, hb, he, Result.andThen_ok]
 cases r
 · simp
 · simpa using hr
theorem eqA_of {t : TypeId} {fs : Array Field} (hu : P.underlying t = some (.struct fs)) (hp : P.stoodInHeld t = false) (h : (Op.eqFields d xs ys fs.toList).run P w = .ok r w) : (Op.equalIn (d + 1) t (.agg xs) (.agg ys)).run P w = .ok r w := by
 have hf : P.fieldsOf t = fs := by simp [Program.fieldsOf, hu]
 rw [run_equalIn_struct (P := P) w d t xs ys (by rw [hf]; exact hu) hp, hf]
 exact h
end
end Go.Proofs.YtmbnjgnmblgjoaaW.PrintWords
end
section
namespace Go.Proofs.YtmbnjgnmblgjoaaW.PrintWords
open Go.RowKit
section
variable {P : Program} {ops : Array Oper} {rest : List Oper} {o : Oper} {a : Act} {Q : Exit → Act → World → Prop} {W : World}
theorem gate_guard (hw : Region.wanted o (yielded ops a.tmps) = true) (h : wpList P ops Q ({ o with guard := none } :: rest) a W) : wpList P ops Q (o :: rest) a W := by
 have h1 : Region.wanted { o with guard := none } (yielded ops a.tmps) = true := rfl
 unfold wpList at h ⊢
 rw [if_pos h1] at h
 rw [if_pos hw]
 exact h
end
end Go.Proofs.YtmbnjgnmblgjoaaW.PrintWords
end
section
namespace Go.Proofs.Ytmbnjgnmblgjoaa.K
open Go.RowKit Go.Proofs.YtmbnjgnmblgjoaaW.PrintWords Go.Proofs.YtmbnjgnmblgjoaaW.PrintLast Go.Proofs.YtmbnjgnmblgjoaaW.PrintMore
attribute [local go_sem] max2_int min2_int max_two min_two max_three min_three max_four min_four
set_option linter.unusedVariables false
set_option linter.unusedSimpArgs false
def errW : Option Int → Value
 | none => .nilIface
 | some c => .iface 0 (.int .i64 c)
theorem errW_none : errW none = .nilIface := rfl
theorem errW_some (c : Int) : errW (some c) = .iface 0 (.int .i64 c) := rfl
theorem info3 : (Try.prog.info? 3).map (fun i => (i.zero, i.size, i.bytes)) = some (some (.int .i64 0), 1, 8) := by kernel_rfl
structure S111 where
 f0 : Int
 f1 : Int
 f2 : Int
 f3 : Int
def z111 : S111 := ⟨(0 : Int), (0 : Int), (0 : Int), (0 : Int)⟩
def k111 : Kd S111 := Kd.iso (Kd.pair (Kd.int .i64) (Kd.pair (Kd.int .i64) (Kd.pair (Kd.int .i64) (Kd.int .i64)))) (fun x : S111 => (x.f0, x.f1, x.f2, x.f3))
theorem k111_open {w : World} {x : S111} {cs : List Value} (h : k111.K w x cs) : cs = [.int .i64 x.f0, .int .i64 x.f1, .int .i64 x.f2, .int .i64 x.f3] := by
 obtain ⟨_, _, rfl, rfl, ⟨_, _, rfl, rfl, ⟨_, _, rfl, rfl, rfl⟩⟩⟩ := h
 exact rfl
theorem k111_mkM (w : World) (base : Nat) (ok : Nat → Prop) (x : S111)  : k111.M w base ok x [.int .i64 x.f0, .int .i64 x.f1, .int .i64 x.f2, .int .i64 x.f3] := ⟨[.int .i64 x.f0], [.int .i64 x.f1, .int .i64 x.f2, .int .i64 x.f3], rfl, rfl, ⟨[.int .i64 x.f1], [.int .i64 x.f2, .int .i64 x.f3], rfl, rfl, ⟨[.int .i64 x.f2], [.int .i64 x.f3], rfl, rfl, rfl⟩⟩⟩
def rd_T111 (xs : List S111) (i : Int) : S111 := xs.getD i.toNat z111
theorem at_T111 {w : World} {A : Option Addr} {n : Nat} {xs : List S111} (h : Kd.C k111 w A n xs) (i : Int) (h0 : 0 ≤ i) (h1 : i < n) : ∃ ad , A = some ad ∧ w.cell? (ad.add (i.toNat * 4)) = some (.int .i64 (rd_T111 xs i).f0) ∧ w.cell? ⟨(ad.add (i.toNat * 4)).block, (ad.add (i.toNat * 4)).off + 1, none⟩ = some (.int .i64 (rd_T111 xs i).f1) ∧ w.cell? ⟨(ad.add (i.toNat * 4)).block, (ad.add (i.toNat * 4)).off + 2, none⟩ = some (.int .i64 (rd_T111 xs i).f2) ∧ w.cell? ⟨(ad.add (i.toNat * 4)).block, (ad.add (i.toNat * 4)).off + 3, none⟩ = some (.int .i64 (rd_T111 xs i).f3) := by
 obtain ⟨ad, c, e, _, hK, hc0⟩ := Kd.C_get h z111 i h0 h1
 have hc : ∀ j u, c[j]? = some u → w.cell? (ad.add (i.toNat * 4 + j)) = some u := hc0
 obtain rfl := k111_open hK
 exact ⟨ad, e, hc 0 _ rfl, by rw [← add_field _ _ 1 (by omega)]; exact hc 1 _ rfl, by rw [← add_field _ _ 2 (by omega)]; exact hc 2 _ rfl, by rw [← add_field _ _ 3 (by omega)]; exact hc 3 _ rfl⟩
end Go.Proofs.Ytmbnjgnmblgjoaa.K
end
section
namespace Go.Proofs.Ytmbnjgnmblgjoaa.K
open Go.RowKit Go.Proofs.YtmbnjgnmblgjoaaW.PrintWords Go.Proofs.YtmbnjgnmblgjoaaW.PrintLast Go.Proofs.YtmbnjgnmblgjoaaW.PrintMore
set_option linter.unusedVariables false
set_option linter.unusedSimpArgs false
structure S24 where
 f0 : Int
 f1 : Int
 f2 : Int
 f3 : Int
 f4 : Int
 f5 : Int
 f6 : (List S111)
 f7 : Int
def z24 : S24 := ⟨(0 : Int), (0 : Int), (0 : Int), (0 : Int), (0 : Int), (0 : Int), ([] : List S111), (0 : Int)⟩
def k24 : Kd S24 := Kd.iso (Kd.pair (Kd.int .i64) (Kd.pair (Kd.int .i64) (Kd.pair (Kd.int .i64) (Kd.pair (Kd.int .i64) (Kd.pair (Kd.int .i64) (Kd.pair (Kd.int .i64) (Kd.pair (Kd.slice 111 k111) (Kd.int .i64)))))))) (fun x : S24 => (x.f0, x.f1, x.f2, x.f3, x.f4, x.f5, x.f6, x.f7))
theorem k24_open {w : World} {x : S24} {cs : List Value} (h : k24.K w x cs) : ∃ A6 c6, cs = [.int .i64 x.f0, .int .i64 x.f1, .int .i64 x.f2, .int .i64 x.f3, .int .i64 x.f4, .int .i64 x.f5, .slice A6 x.f6.length c6, .int .i64 x.f7] ∧ x.f6.length ≤ c6 ∧ k111.C w A6 x.f6.length x.f6 := by
 obtain ⟨_, _, rfl, rfl, ⟨_, _, rfl, rfl, ⟨_, _, rfl, rfl, ⟨_, _, rfl, rfl, ⟨_, _, rfl, rfl, ⟨_, _, rfl, rfl, ⟨_, _, rfl, ⟨A6, c6, rfl, l6, g6⟩, rfl⟩⟩⟩⟩⟩⟩⟩ := h
 exact ⟨A6, c6, rfl, l6, g6⟩
theorem k24_mkM (w : World) (base : Nat) (ok : Nat → Prop) (x : S24) {v6 : Value} (g6 : k111.R 111 w base ok v6 x.f6) : k24.M w base ok x [.int .i64 x.f0, .int .i64 x.f1, .int .i64 x.f2, .int .i64 x.f3, .int .i64 x.f4, .int .i64 x.f5, v6, .int .i64 x.f7] := ⟨[.int .i64 x.f0], [.int .i64 x.f1, .int .i64 x.f2, .int .i64 x.f3, .int .i64 x.f4, .int .i64 x.f5, v6, .int .i64 x.f7], rfl, rfl, ⟨[.int .i64 x.f1], [.int .i64 x.f2, .int .i64 x.f3, .int .i64 x.f4, .int .i64 x.f5, v6, .int .i64 x.f7], rfl, rfl, ⟨[.int .i64 x.f2], [.int .i64 x.f3, .int .i64 x.f4, .int .i64 x.f5, v6, .int .i64 x.f7], rfl, rfl, ⟨[.int .i64 x.f3], [.int .i64 x.f4, .int .i64 x.f5, v6, .int .i64 x.f7], rfl, rfl, ⟨[.int .i64 x.f4], [.int .i64 x.f5, v6, .int .i64 x.f7], rfl, rfl, ⟨[.int .i64 x.f5], [v6, .int .i64 x.f7], rfl, rfl, ⟨[v6], [.int .i64 x.f7], rfl, ⟨v6, rfl, g6⟩, rfl⟩⟩⟩⟩⟩⟩⟩
def rd_T24 (xs : List S24) (i : Int) : S24 := xs.getD i.toNat z24
structure S26 where
 f0 : Int
 f1 : Int
 f2 : S24
def z26 : S26 := ⟨(0 : Int), (0 : Int), z24⟩
def k26 : Kd S26 := Kd.iso (Kd.pair (Kd.int .i64) (Kd.pair (Kd.int .i64) k24)) (fun x : S26 => (x.f0, x.f1, x.f2))
theorem k26_open {w : World} {x : S26} {cs : List Value} (h : k26.K w x cs) : ∃ A8 c8, cs = [.int .i64 x.f0, .int .i64 x.f1, .int .i64 x.f2.f0, .int .i64 x.f2.f1, .int .i64 x.f2.f2, .int .i64 x.f2.f3, .int .i64 x.f2.f4, .int .i64 x.f2.f5, .slice A8 x.f2.f6.length c8, .int .i64 x.f2.f7] ∧ x.f2.f6.length ≤ c8 ∧ k111.C w A8 x.f2.f6.length x.f2.f6 := by
 obtain ⟨_, _, rfl, rfl, ⟨_, _, rfl, rfl, s2⟩⟩ := h
 obtain ⟨A8, c8, rfl, l8, g8⟩ := k24_open s2
 exact ⟨A8, c8, rfl, l8, g8⟩
theorem k26_mkM (w : World) (base : Nat) (ok : Nat → Prop) (x : S26) {v8 : Value} (g8 : k111.R 111 w base ok v8 x.f2.f6) : k26.M w base ok x [.int .i64 x.f0, .int .i64 x.f1, .int .i64 x.f2.f0, .int .i64 x.f2.f1, .int .i64 x.f2.f2, .int .i64 x.f2.f3, .int .i64 x.f2.f4, .int .i64 x.f2.f5, v8, .int .i64 x.f2.f7] := ⟨[.int .i64 x.f0], [.int .i64 x.f1, .int .i64 x.f2.f0, .int .i64 x.f2.f1, .int .i64 x.f2.f2, .int .i64 x.f2.f3, .int .i64 x.f2.f4, .int .i64 x.f2.f5, v8, .int .i64 x.f2.f7], rfl, rfl, ⟨[.int .i64 x.f1], [.int .i64 x.f2.f0, .int .i64 x.f2.f1, .int .i64 x.f2.f2, .int .i64 x.f2.f3, .int .i64 x.f2.f4, .int .i64 x.f2.f5, v8, .int .i64 x.f2.f7], rfl, rfl, (k24_mkM w base ok x.f2 g8)⟩⟩
def rd_T26 (xs : List S26) (i : Int) : S26 := xs.getD i.toNat z26
theorem at_T26 {w : World} {A : Option Addr} {n : Nat} {xs : List S26} (h : Kd.C k26 w A n xs) (i : Int) (h0 : 0 ≤ i) (h1 : i < n) : ∃ ad A8 c8, A = some ad ∧ w.cell? (ad.add (i.toNat * 10)) = some (.int .i64 (rd_T26 xs i).f0) ∧ w.cell? ⟨(ad.add (i.toNat * 10)).block, (ad.add (i.toNat * 10)).off + 1, none⟩ = some (.int .i64 (rd_T26 xs i).f1) ∧ w.cell? ⟨(ad.add (i.toNat * 10)).block, (ad.add (i.toNat * 10)).off + 2, none⟩ = some (.int .i64 (rd_T26 xs i).f2.f0) ∧ w.cell? ⟨(ad.add (i.toNat * 10)).block, (ad.add (i.toNat * 10)).off + 3, none⟩ = some (.int .i64 (rd_T26 xs i).f2.f1) ∧ w.cell? ⟨(ad.add (i.toNat * 10)).block, (ad.add (i.toNat * 10)).off + 4, none⟩ = some (.int .i64 (rd_T26 xs i).f2.f2) ∧ w.cell? ⟨(ad.add (i.toNat * 10)).block, (ad.add (i.toNat * 10)).off + 5, none⟩ = some (.int .i64 (rd_T26 xs i).f2.f3) ∧ w.cell? ⟨(ad.add (i.toNat * 10)).block, (ad.add (i.toNat * 10)).off + 6, none⟩ = some (.int .i64 (rd_T26 xs i).f2.f4) ∧ w.cell? ⟨(ad.add (i.toNat * 10)).block, (ad.add (i.toNat * 10)).off + 7, none⟩ = some (.int .i64 (rd_T26 xs i).f2.f5) ∧ w.cell? ⟨(ad.add (i.toNat * 10)).block, (ad.add (i.toNat * 10)).off + 8, none⟩ = some (.slice A8 (rd_T26 xs i).f2.f6.length c8) ∧ w.cell? ⟨(ad.add (i.toNat * 10)).block, (ad.add (i.toNat * 10)).off + 9, none⟩ = some (.int .i64 (rd_T26 xs i).f2.f7) ∧ (rd_T26 xs i).f2.f6.length ≤ c8 ∧ k111.C w A8 (rd_T26 xs i).f2.f6.length (rd_T26 xs i).f2.f6 := by
 obtain ⟨ad, c, e, _, hK, hc0⟩ := Kd.C_get h z26 i h0 h1
 have hc : ∀ j u, c[j]? = some u → w.cell? (ad.add (i.toNat * 10 + j)) = some u := hc0
 obtain ⟨A8, c8, rfl, l8, g8⟩ := k26_open hK
 exact ⟨ad, A8, c8, e, hc 0 _ rfl, by rw [← add_field _ _ 1 (by omega)]; exact hc 1 _ rfl, by rw [← add_field _ _ 2 (by omega)]; exact hc 2 _ rfl, by rw [← add_field _ _ 3 (by omega)]; exact hc 3 _ rfl, by rw [← add_field _ _ 4 (by omega)]; exact hc 4 _ rfl, by rw [← add_field _ _ 5 (by omega)]; exact hc 5 _ rfl, by rw [← add_field _ _ 6 (by omega)]; exact hc 6 _ rfl, by rw [← add_field _ _ 7 (by omega)]; exact hc 7 _ rfl, by rw [← add_field _ _ 8 (by omega)]; exact hc 8 _ rfl, by rw [← add_field _ _ 9 (by omega)]; exact hc 9 _ rfl, l8, g8⟩
end Go.Proofs.Ytmbnjgnmblgjoaa.K
end
section
namespace Go.Proofs.Ytmbnjgnmblgjoaa.Man
open Go.RowKit Go.Proofs.YtmbnjgnmblgjoaaW.PrintWords Go.Proofs.YtmbnjgnmblgjoaaW.PrintLast Go.Proofs.YtmbnjgnmblgjoaaW.PrintMore
set_option linter.unusedVariables false
set_option linter.unusedSimpArgs false
set_option maxRecDepth 100000
theorem WrS.below {w w1 : World} {base B n : Nat} {xs : List Int} (h : WrS w base B xs) (hb : Below n w w1) (hn : w.heap.size ≤ n) : WrS w1 base B xs := by
 obtain ⟨v, k, r⟩ := h.ex
 exact ⟨v, k.below hb hn, Kd.R_below r (hb.mono hn)⟩
theorem vb_le10 (n : Nat) (hn : n < 9223372036854775808) : (vb n).length ≤ 10 := vb_le_ten (by omega)
theorem num1 {w : World} {base B : Nat} {xs : List Int} (hW : WrS w base B xs) (hB : base ≤ B) (hbase : base ≤ w.heap.size) (n : Nat) (hn : n < 9223372036854775808) (hroom : xs.length ≤ 100000000000000) :
 Calls Try.prog 110 #[.pointer (some ⟨B, 0, none⟩), .slice (some ⟨w.heap.size, 0, none⟩) 1 1] (w.alloc (.cells #[.int .i64 (n : Int)] 3)) fun e w' => e = .returned (.tuple #[]) ∧ WrS w' base B (xs ++ vb n) ∧ w.grownBy w' (some B) := by
 have hBl := hW.lt
 have hbe : Below base w (w.alloc (.cells #[.int .i64 (n : Int)] 3)) := (Below.refl _ _).alloc hbase _
 have hbe2 : Below w.heap.size w (w.alloc (.cells #[.int .i64 (n : Int)] 3)) := (Below.refl _ _).alloc (Nat.le_refl _) _
 have hsz : (w.alloc (.cells #[.int .i64 (n : Int)] 3)).heap.size = w.heap.size + 1 := World.size_alloc _ _
 have e0 : vbs [(n : Int)] = vb n := vbs_one n
 have hl := vb_le10 n hn
 have h := num_is (hW.below hbe2 (Nat.le_refl _)) (some ⟨w.heap.size, 0, none⟩) 1 [(n : Int)] (C_box w .i64 (n : Int) 3) (fun ad e => by cases e; exact ⟨fun e2 => (by have : w.heap.size = B := e2; omega), (by show w.heap.size < _; rw [hsz]; omega)⟩)
  (fun i hi => by have : i = 0 := (by simpa using hi); subst this; exact ⟨by show (0 : Int) ≤ (n : Int); omega, by show (n : Int) < _; omega⟩) (by rw [e0, List.length_append]; omega) (by rw [hsz]; omega)
 rw [e0] at h
 refine h.mono ?_
 rintro e w1 ⟨rfl, hw, hg⟩
 exact ⟨rfl, hw, (grown_of_below hbe2 _).trans hg⟩
def tokB (x : K.S111) : List Int := vb (x.f0 + 4 * x.f2).toNat ++ (if x.f0 = 0 then vb x.f3.toNat else if x.f0 = 1 ∨ x.f0 = 3 then vb x.f1.toNat else [])
def docB (l : List K.S111) : List Int := vb l.length ++ l.flatMap tokB
def TokOk (x : K.S111) : Prop := 0 ≤ x.f0 ∧ x.f0 ≤ 3 ∧ 0 ≤ x.f1 ∧ x.f1 < 2147483648 ∧ 0 ≤ x.f2 ∧ x.f2 < 2147483648 ∧ 0 ≤ x.f3 ∧ x.f3 < 2147483648
theorem tokB_le (x : K.S111) (h : TokOk x) : (tokB x).length ≤ 20 := by
 obtain ⟨h0, h1, h2, h3, h4, h5, h6, h7⟩ := h
 have a := vb_le10 (x.f0 + 4 * x.f2).toNat (by omega)
 have b := vb_le10 x.f3.toNat (by omega)
 have c := vb_le10 x.f1.toNat (by omega)
 unfold tokB
 rw [List.length_append]
 split
 · omega
 · split
   · omega
   · simp only [List.length_nil]; omega
theorem docB_snoc (l : List K.S111) (i : Nat) (h : i < l.length) : (l.take (i + 1)).flatMap tokB = (l.take i).flatMap tokB ++ tokB (l.getD i K.z111) := by
 rw [List.take_succ_eq_append_getElem h, List.flatMap_append]
 simp [List.getD, h]
theorem toks_le (l : List K.S111) (h : ∀ x ∈ l, TokOk x) : (l.flatMap tokB).length ≤ 20 * l.length := by
 induction l with
 | nil => simp
 | cons x l ih =>
  rw [List.flatMap_cons, List.length_append, List.length_cons]
  have := tokB_le x (h x List.mem_cons_self)
  have := ih fun y hy => h y (List.mem_cons_of_mem _ hy)
  omega
def TokAt (w : World) (P : Nat) (x : K.S111) : Prop := w.heap[P]? = some (.cells #[.int .i64 x.f0, .int .i64 x.f1, .int .i64 x.f2, .int .i64 x.f3] 111 (0, 0))
theorem TokAt.c0 {w : World} {P : Nat} {x : K.S111} (k : TokAt w P x) : w.cell? ⟨P, 0, none⟩ = some (.int .i64 x.f0) := by simp [World.cell?, show w.heap[P]? = _ from k]
theorem TokAt.c1 {w : World} {P : Nat} {x : K.S111} (k : TokAt w P x) : w.cell? ⟨P, 1, none⟩ = some (.int .i64 x.f1) := by simp [World.cell?, show w.heap[P]? = _ from k]
theorem TokAt.c2 {w : World} {P : Nat} {x : K.S111} (k : TokAt w P x) : w.cell? ⟨P, 2, none⟩ = some (.int .i64 x.f2) := by simp [World.cell?, show w.heap[P]? = _ from k]
theorem TokAt.c3 {w : World} {P : Nat} {x : K.S111} (k : TokAt w P x) : w.cell? ⟨P, 3, none⟩ = some (.int .i64 x.f3) := by simp [World.cell?, show w.heap[P]? = _ from k]
theorem TokAt.lt {w : World} {P : Nat} {x : K.S111} (k : TokAt w P x) : P < w.heap.size := (Array.getElem?_eq_some_iff.1 k).1
set_option maxHeartbeats 8000000 in
theorem wdoc_is {w0 w : World} {base B : Nat} {xs : List Int} (hW : WrS w base B xs) (hB : base ≤ B) (hbase : base ≤ w.heap.size) (A : Option Addr) (c : Nat) (l : List K.S111) (hC : Kd.C K.k111 w0 A l.length l) (hb : Below w0.heap.size w0 w) (h0 : w0.heap.size ≤ base)
 (hl : l.length ≤ 2048) (hok : ∀ x ∈ l, TokOk x) (hroom : xs.length ≤ 90000000000000) :
 Calls Try.prog 104 #[.pointer (some ⟨B, 0, none⟩), .slice A l.length c] w fun e w' => e = .returned (.tuple #[]) ∧ WrS w' base B (xs ++ docB l) ∧ w.grownBy w' (some B) := by
 have hCg : ∀ W, w.grownBy W (some B) → Kd.C K.k111 W A l.length l := fun W hg => Kd.C_below hC (hb.trans ⟨hg.os, hg.tape, hg.output, hg.size, fun k hk => hg.block k (by have := hb.size; omega) (by intro e; cases e; omega)⟩)
 have hok2 : ∀ i, i < l.length → TokOk (l.getD i K.z111) := fun i hi => hok _ (by rw [show l.getD i K.z111 = l[i] by simp [List.getD, hi]]; exact List.getElem_mem hi)
 have htl : ∀ i, ((l.take i).flatMap tokB).length ≤ 20 * 2048 := fun i => by
  have h1 := toks_le (l.take i) (fun x hx => hok x (List.mem_of_mem_take hx))
  have h2 : (l.take i).length ≤ l.length := by rw [List.length_take]; omega
  omega
 have hv10 := vb_le10 l.length (by omega)
 have HW := Lib.hid hW
 have HC := Lib.hid hCg
 have HOK := Lib.hid hok2
 have HTL := Lib.hid htl
 have HV := Lib.hid hv10
 clear hW hC hb hok hCg hok2 htl hv10
 go_enter Try.func104, Try.ntmps104
 go_wp2_with (go_at_call 110; refine (num1 HW.out hB hbase l.length (by omega) (by omega)).mono ?_; rintro e w1 ⟨rfl, hw, hg⟩; have HW1 := Lib.hid hw; have HG1 := Lib.hid hg; clear hw hg)
 go_loopg [13] l.length (fun g s13 wr => ∃ i : Nat, s13 = .int .i64 i ∧ i ≤ l.length ∧ g = l.length - i ∧ Hid (WrS wr base B (xs ++ vb l.length ++ (l.take i).flatMap tokB)) ∧ Hid (w.grownBy wr (some B)))
 case atStart => exact ⟨0, rfl, Nat.zero_le _, rfl, Lib.hid (by simpa using HW1.out), HG1⟩
 case round =>
  clear HW1 HG1 HW
  obtain ⟨i, rfl, hi, hg, HX, HG⟩ := hrel
  by_cases hlt : i < l.length
  · obtain ⟨ad, ea, a0, a1, a2, a3⟩ := K.at_T111 (HC.out _ HG.out) (i : Int) (by omega) (by omega)
    subst ea
    have hx := HOK.out i hlt
    have hsn := docB_snoc l i hlt
    have hrd : K.rd_T111 l (i : Int) = l.getD i K.z111 := by unfold K.rd_T111; rw [Int.toNat_natCast]
    rw [hrd, Int.toNat_natCast] at a0 a1 a2 a3
    clear hrd
    generalize l.getD i K.z111 = x at hx hsn a0 a1 a2 a3
    obtain ⟨k, t, n, m⟩ := x
    obtain ⟨h0k, h1k, h2t, h3t, h4n, h5n, h6m, h7m⟩ := hx
    simp only at h0k h1k h2t h3t h4n h5n h6m h7m a0 a1 a2 a3
    have hU1 : IntKind.i64.wrap (4 * n) = 4 * n := by rw [IntKind.wrap_i64]; omega
    obtain ⟨N, hN⟩ : ∃ N : Nat, k + 4 * n = (N : Int) := ⟨(k + 4 * n).toNat, by omega⟩
    have hN1 : N < 9000000000 := by omega
    have hU2 : IntKind.i64.wrap (k + 4 * n) = (N : Int) := by rw [IntKind.wrap_i64]; omega
    have htb : tokB ⟨k, t, n, m⟩ = vb N ++ (if k = 0 then vb m.toNat else if k = 1 ∨ k = 3 then vb t.toNat else []) := by
     unfold tokB
     simp only
     rw [hN, Int.toNat_natCast]
    have htlen := HTL.out i
    have hv10 := HV.out
    obtain ⟨ys, hys⟩ : ∃ ys, xs ++ vb l.length ++ (l.take i).flatMap tokB = ys := ⟨_, rfl⟩
    have hyl : ys.length ≤ 90000000100000 := by rw [← hys, List.length_append, List.length_append]; omega
    rw [hys] at HX
    have hye : xs ++ vb l.length ++ (l.take (i + 1)).flatMap tokB = ys ++ tokB ⟨k, t, n, m⟩ := by rw [hsn, ← List.append_assoc, hys]
    rw [htb] at hye
    have HYE := Lib.hid hye
    obtain ⟨wt, hwt⟩ : ∃ wt, wt = wr.alloc (.cells #[.int .i64 k, .int .i64 t, .int .i64 n, .int .i64 m] 111) := ⟨_, rfl⟩
    have hbt : Below wr.heap.size wr wt := by rw [hwt]; exact (Below.refl _ _).alloc (Nat.le_refl _) _
    have hkt : TokAt wt wr.heap.size ⟨k, t, n, m⟩ := by rw [hwt]; exact World.alloc_heap_new wr _
    have hgt : w.grownBy wt (some B) := HG.out.trans (grown_of_below hbt _)
    have hBt : B < wr.heap.size := HX.out.lt
    have hwz : wt.heap.size = wr.heap.size + 1 := by rw [hwt]; exact World.size_alloc _ _
    have HXT := Lib.hid (HX.out.below hbt (Nat.le_refl _))
    have HKT := Lib.hid hkt
    have HGT := Lib.hid hgt
    have HWT := Lib.hid hwt
    have HBT := Lib.hid hBt
    have hbw : base ≤ wt.heap.size := by have := hgt.size; omega
    have hnum := num1 HXT.out hB hbw N (by omega) (by omega)
    rw [hwz, hwt] at hnum
    have HNUM := Lib.hid hnum
    have HBW := Lib.hid hbw
    have HN1 := Lib.hid hN1
    have HYL := Lib.hid hyl
    clear hnum hwz hys htb hsn hye hN hwt hbt hkt hgt hBt hbw htlen hv10 hN1 hyl
    have HM : Hid (0 ≤ t ∧ t < 2147483648 ∧ 0 ≤ m ∧ m < 2147483648) := Lib.hid ⟨h2t, h3t, h6m, h7m⟩
    clear h4n h5n h2t h3t h6m h7m
    go_upto_region 5 with (go_at_call 110; refine HNUM.out.mono ?_; rintro e w2 ⟨rfl, hw, hg2⟩; rw [← HWT.out] at hg2; have HX2 := Lib.hid hw; have HG2 := Lib.hid (HGT.out.trans hg2); have hk2 : TokAt w2 wr.heap.size ⟨k, t, n, m⟩ := (hg2.block _ HKT.out.lt (by have := HBT.out; intro e; cases e; omega)).trans HKT.out; have d0 := hk2.c0; have d1 := hk2.c1; have d3 := hk2.c3; clear hw hg2 hk2)
    have HB2 : Hid (base ≤ w2.heap.size) := Lib.hid (Nat.le_trans hbase HG2.out.size)
    have HL2 : Hid ((ys ++ vb N).length ≤ 99000000000000) := Lib.hid (by have h1 := vb_le10 N (by have := HN1.out; omega); have := HYL.out; rw [List.length_append]; omega)
    rcases (show k = 0 ∨ k = 1 ∨ k = 2 ∨ k = 3 by omega) with rfl | rfl | rfl | rfl
    · obtain ⟨M, rfl⟩ : ∃ M : Nat, m = (M : Int) := ⟨m.toNat, by have := HM.out; omega⟩
      have HV2 : Hid (M < 9000000000) := Lib.hid (by have := HM.out; omega)
      go_wp2_with (go_at_call 110; refine (num1 HX2.out hB HB2.out M (by have := HV2.out; omega) (by have := HL2.out; omega)).mono ?_; rintro e w3 ⟨rfl, hw, hg3⟩; have HX3 := Lib.hid hw; have HG3 := Lib.hid (HG2.out.trans hg3); clear hw hg3)
      go_roundg (l.length - (i + 1))
      case measure => omega
      case rel => exact ⟨i + 1, by go_num, by omega, rfl, Lib.hid (by rw [HYE.out, if_pos (by simp), Int.toNat_natCast, ← List.append_assoc]; exact HX3.out), HG3⟩
    · obtain ⟨M, rfl⟩ : ∃ M : Nat, t = (M : Int) := ⟨t.toNat, by have := HM.out; omega⟩
      have HV2 : Hid (M < 9000000000) := Lib.hid (by have := HM.out; omega)
      go_wp2_with (go_at_call 110; refine (num1 HX2.out hB HB2.out M (by have := HV2.out; omega) (by have := HL2.out; omega)).mono ?_; rintro e w3 ⟨rfl, hw, hg3⟩; have HX3 := Lib.hid hw; have HG3 := Lib.hid (HG2.out.trans hg3); clear hw hg3)
      go_roundg (l.length - (i + 1))
      case measure => omega
      case rel => exact ⟨i + 1, by go_num, by omega, rfl, Lib.hid (by rw [HYE.out, if_neg (by decide), if_pos (by simp), Int.toNat_natCast, ← List.append_assoc]; exact HX3.out), HG3⟩
    · go_wp2_with (fail)
      go_roundg (l.length - (i + 1))
      case measure => omega
      case rel => exact ⟨i + 1, by go_num, by omega, rfl, Lib.hid (by rw [HYE.out, if_neg (by decide), if_neg (by decide), List.append_nil]; exact HX2.out), HG2⟩
    · obtain ⟨M, rfl⟩ : ∃ M : Nat, t = (M : Int) := ⟨t.toNat, by have := HM.out; omega⟩
      have HV2 : Hid (M < 9000000000) := Lib.hid (by have := HM.out; omega)
      go_wp2_with (go_at_call 110; refine (num1 HX2.out hB HB2.out M (by have := HV2.out; omega) (by have := HL2.out; omega)).mono ?_; rintro e w3 ⟨rfl, hw, hg3⟩; have HX3 := Lib.hid hw; have HG3 := Lib.hid (HG2.out.trans hg3); clear hw hg3)
      go_roundg (l.length - (i + 1))
      case measure => omega
      case rel => exact ⟨i + 1, by go_num, by omega, rfl, Lib.hid (by rw [HYE.out, if_neg (by decide), if_pos (by simp), Int.toNat_natCast, ← List.append_assoc]; exact HX3.out), HG3⟩
  · obtain rfl : i = l.length := by omega
    rw [List.take_length] at HX
    go_wp2
    go_end0
    exact ⟨rfl, by have := HX.out; rw [List.append_assoc] at this; exact this, HG.out⟩
end Go.Proofs.Ytmbnjgnmblgjoaa.Man
end
section
namespace Go.Proofs.Ytmbnjgnmblgjoaa.Man
open Go.RowKit Go.Proofs.YtmbnjgnmblgjoaaW.PrintWords Go.Proofs.YtmbnjgnmblgjoaaW.PrintLast Go.Proofs.YtmbnjgnmblgjoaaW.PrintMore
set_option linter.unusedVariables false
set_option linter.unusedSimpArgs false
set_option maxRecDepth 100000
theorem C_lit (w : World) (k : IntKind) (l : List Int) (cs : Array Value) (t : TypeId) (h : cs.toList = l.map (Value.int k)) (hl : l.length ≤ 100) : Kd.C (Kd.int k) (w.alloc (.cells cs t)) (some ⟨w.heap.size, 0, none⟩) l.length l :=
 Kd.C_of_reads (d := (0 : Int)) (h1 := fun _ => rfl) ⟨rfl, by omega, fun _ => ⟨_, rfl, fun j hj => by
  rw [Addr.add_lit, cell_of_row _ w.heap.size _ _ _ (0, 0) (World.alloc_heap_new w _)]
  rw [Nat.zero_add, ← Array.getElem?_toList, h, List.getElem?_map, List.getD_eq_getElem?_getD, List.getElem?_eq_getElem hj]
  rfl⟩⟩
theorem vbs_le (l : List Int) (h : ∀ i, i < l.length → 0 ≤ l.getD i 0 ∧ l.getD i 0 < 9223372036854775808) : (vbs l).length ≤ 10 * l.length := by
 induction l with
 | nil => simp [vbs]
 | cons a l ih =>
  have h0 := h 0 (by simp)
  have h1 := ih fun i hi => by have := h (i + 1) (by simpa using hi); simpa using this
  simp only [List.getD_cons_zero] at h0
  have h2 := vb_le10 a.toNat (by omega)
  have e : vbs (a :: l) = vb a.toNat ++ vbs l := rfl
  rw [e, List.length_append, List.length_cons]
  omega
theorem numL {w : World} {base B : Nat} {xs : List Int} (hW : WrS w base B xs) (hB : base ≤ B) (hbase : base ≤ w.heap.size) (l : List Int) (cs : Array Value) (hcs : cs.toList = l.map (Value.int .i64)) (hl : l.length ≤ 5)
 (hn : ∀ i, i < l.length → 0 ≤ l.getD i 0 ∧ l.getD i 0 < 9223372036854775808) (hroom : xs.length ≤ 100000000000000) :
 Calls Try.prog 110 #[.pointer (some ⟨B, 0, none⟩), .slice (some ⟨w.heap.size, 0, none⟩) l.length l.length] (w.alloc (.cells cs 3)) fun e w' => e = .returned (.tuple #[]) ∧ WrS w' base B (xs ++ vbs l) ∧ w.grownBy w' (some B) := by
 have hBl := hW.lt
 have hbe : Below base w (w.alloc (.cells cs 3)) := (Below.refl _ _).alloc hbase _
 have hbe2 : Below w.heap.size w (w.alloc (.cells cs 3)) := (Below.refl _ _).alloc (Nat.le_refl _) _
 have hsz : (w.alloc (.cells cs 3)).heap.size = w.heap.size + 1 := World.size_alloc _ _
 have hll := vbs_le l hn
 refine (num_is (hW.below hbe2 (Nat.le_refl _)) (some ⟨w.heap.size, 0, none⟩) l.length l (C_lit w .i64 l cs 3 hcs (by omega)) (fun ad e => by cases e; exact ⟨fun e2 => (by have : w.heap.size = B := e2; omega), (by show w.heap.size < _; rw [hsz]; omega)⟩) hn (by rw [List.length_append]; omega) (by rw [hsz]; omega)).mono ?_
 rintro e w1 ⟨rfl, hw, hg⟩
 exact ⟨rfl, hw, (grown_of_below hbe2 _).trans hg⟩
def entryB (x : K.S26) : List Int :=
 vbs [x.f0, x.f1, x.f2.f0, x.f2.f1, x.f2.f2] ++ (if x.f2.f0 = 2 ∨ x.f2.f0 = 3 then vbs [x.f2.f7] else if x.f2.f0 = 1 then vbs [x.f2.f3, x.f2.f4, x.f2.f5] ++ docB x.f2.f6 else docB x.f2.f6)
structure EntOk (x : K.S26) : Prop where
 who : 0 ≤ x.f0 ∧ x.f0 < 2147483648
 seq : 0 ≤ x.f1 ∧ x.f1 < 2147483648
 k : 0 ≤ x.f2.f0 ∧ x.f2.f0 ≤ 3
 from_ : 0 ≤ x.f2.f1 ∧ x.f2.f1 < 2147483648
 to_ : 0 ≤ x.f2.f2 ∧ x.f2.f2 < 2147483648
 gf : 0 ≤ x.f2.f3 ∧ x.f2.f3 < 2147483648
 gt : 0 ≤ x.f2.f4 ∧ x.f2.f4 < 2147483648
 ins : 0 ≤ x.f2.f5 ∧ x.f2.f5 < 2147483648
 mark : 0 ≤ x.f2.f7 ∧ x.f2.f7 < 2147483648
 len : x.f2.f6.length ≤ 2048
 toks : ∀ t ∈ x.f2.f6, TokOk t
theorem getD_lt5 (a b c d e : Int) (ha : 0 ≤ a ∧ a < 9223372036854775808) (hb : 0 ≤ b ∧ b < 9223372036854775808) (hc : 0 ≤ c ∧ c < 9223372036854775808) (hd : 0 ≤ d ∧ d < 9223372036854775808) (he : 0 ≤ e ∧ e < 9223372036854775808) :
 ∀ i, i < [a, b, c, d, e].length → 0 ≤ [a, b, c, d, e].getD i 0 ∧ [a, b, c, d, e].getD i 0 < 9223372036854775808 := by
 intro i hi
 match i, hi with
 | 0, _ => exact ha
 | 1, _ => exact hb
 | 2, _ => exact hc
 | 3, _ => exact hd
 | 4, _ => exact he
theorem getD_lt3 (a b c : Int) (ha : 0 ≤ a ∧ a < 9223372036854775808) (hb : 0 ≤ b ∧ b < 9223372036854775808) (hc : 0 ≤ c ∧ c < 9223372036854775808) :
 ∀ i, i < [a, b, c].length → 0 ≤ [a, b, c].getD i 0 ∧ [a, b, c].getD i 0 < 9223372036854775808 := by
 intro i hi
 match i, hi with
 | 0, _ => exact ha
 | 1, _ => exact hb
 | 2, _ => exact hc
theorem getD_lt1 (a : Int) (ha : 0 ≤ a ∧ a < 9223372036854775808) : ∀ i, i < [a].length → 0 ≤ [a].getD i 0 ∧ [a].getD i 0 < 9223372036854775808 := by
 intro i hi
 match i, hi with
 | 0, _ => exact ha
def StepAt (w : World) (P : Nat) (k f t gf gt ins : Int) (A : Option Addr) (n c : Nat) (m : Int) : Prop := w.heap[P]? = some (.cells #[.int .i64 k, .int .i64 f, .int .i64 t, .int .i64 gf, .int .i64 gt, .int .i64 ins, .slice A n c, .int .i64 m] 24 (0, 0))
theorem StepAt.c0 {w : World} {P n c : Nat} {k f t gf gt ins m : Int} {A : Option Addr} (h : StepAt w P k f t gf gt ins A n c m) : w.cell? ⟨P, 0, none⟩ = some (.int .i64 k) := by simp [World.cell?, show w.heap[P]? = _ from h]
theorem StepAt.c3 {w : World} {P n c : Nat} {k f t gf gt ins m : Int} {A : Option Addr} (h : StepAt w P k f t gf gt ins A n c m) : w.cell? ⟨P, 3, none⟩ = some (.int .i64 gf) := by simp [World.cell?, show w.heap[P]? = _ from h]
theorem StepAt.c4 {w : World} {P n c : Nat} {k f t gf gt ins m : Int} {A : Option Addr} (h : StepAt w P k f t gf gt ins A n c m) : w.cell? ⟨P, 4, none⟩ = some (.int .i64 gt) := by simp [World.cell?, show w.heap[P]? = _ from h]
theorem StepAt.c5 {w : World} {P n c : Nat} {k f t gf gt ins m : Int} {A : Option Addr} (h : StepAt w P k f t gf gt ins A n c m) : w.cell? ⟨P, 5, none⟩ = some (.int .i64 ins) := by simp [World.cell?, show w.heap[P]? = _ from h]
theorem StepAt.c6 {w : World} {P n c : Nat} {k f t gf gt ins m : Int} {A : Option Addr} (h : StepAt w P k f t gf gt ins A n c m) : w.cell? ⟨P, 6, none⟩ = some (.slice A n c) := by simp [World.cell?, show w.heap[P]? = _ from h]
theorem StepAt.c7 {w : World} {P n c : Nat} {k f t gf gt ins m : Int} {A : Option Addr} (h : StepAt w P k f t gf gt ins A n c m) : w.cell? ⟨P, 7, none⟩ = some (.int .i64 m) := by simp [World.cell?, show w.heap[P]? = _ from h]
theorem StepAt.lt {w : World} {P n c : Nat} {k f t gf gt ins m : Int} {A : Option Addr} (h : StepAt w P k f t gf gt ins A n c m) : P < w.heap.size := (Array.getElem?_eq_some_iff.1 h).1
theorem StepAt.grown {w w1 : World} {P n c B : Nat} {k f t gf gt ins m : Int} {A : Option Addr} (h : StepAt w P k f t gf gt ins A n c m) (hg : w.grownBy w1 (some B)) (hB : B < P) : StepAt w1 P k f t gf gt ins A n c m :=
 (hg.block _ h.lt (by intro e; cases e; omega)).trans h
theorem below_of_grown {w0 w w1 : World} {B : Nat} (hb : Below w0.heap.size w0 w) (hg : w.grownBy w1 (some B)) (hB : w0.heap.size ≤ B) : Below w0.heap.size w0 w1 :=
 hb.grown hg hb.size fun k e => by cases e; exact hB
set_option maxHeartbeats 8000000 in
theorem wentry_is {w0 w : World} {base B : Nat} {xs : List Int} (hW : WrS w base B xs) (hB : base ≤ B) (hbase : base ≤ w.heap.size) (x : K.S26) (A : Option Addr) (c : Nat) (hC : Kd.C K.k111 w0 A x.f2.f6.length x.f2.f6) (hb : Below w0.heap.size w0 w) (h0 : w0.heap.size ≤ base)
 (hok : EntOk x) (hroom : xs.length ≤ 80000000000000) :
 Calls Try.prog 88 #[.pointer (some ⟨B, 0, none⟩), .agg #[.int .i64 x.f0, .int .i64 x.f1, .int .i64 x.f2.f0, .int .i64 x.f2.f1, .int .i64 x.f2.f2, .int .i64 x.f2.f3, .int .i64 x.f2.f4, .int .i64 x.f2.f5, .slice A x.f2.f6.length c, .int .i64 x.f2.f7]] w
  fun e w' => e = .returned (.tuple #[]) ∧ WrS w' base B (xs ++ entryB x) ∧ w.grownBy w' (some B) := by
 obtain ⟨who, seq, ⟨k, f, t, gf, gt, ins, sl, m⟩⟩ := x
 obtain ⟨h1, h2, h3, h4, h5, h6, h7, h8, h9, h10, h11⟩ := hok
 simp only at h1 h2 h3 h4 h5 h6 h7 h8 h9 h10 h11 hC ⊢
 unfold entryB
 simp only
 have hBl := hW.lt
 obtain ⟨w1, hw1⟩ : ∃ w1, w1 = w.alloc (.cells #[.int .i64 who, .int .i64 seq, .int .i64 k, .int .i64 f, .int .i64 t, .int .i64 gf, .int .i64 gt, .int .i64 ins, .slice A sl.length c, .int .i64 m] 26) := ⟨_, rfl⟩
 have hb1 : Below w.heap.size w w1 := by rw [hw1]; exact (Below.refl _ _).alloc (Nat.le_refl _) _
 have hz1 : w1.heap.size = w.heap.size + 1 := by rw [hw1]; exact World.size_alloc _ _
 obtain ⟨w2, hw2⟩ : ∃ w2, w2 = w1.alloc (.cells #[.int .i64 k, .int .i64 f, .int .i64 t, .int .i64 gf, .int .i64 gt, .int .i64 ins, .slice A sl.length c, .int .i64 m] 24) := ⟨_, rfl⟩
 have hb2 : Below w1.heap.size w1 w2 := by rw [hw2]; exact (Below.refl _ _).alloc (Nat.le_refl _) _
 have hz2 : w2.heap.size = w.heap.size + 2 := by rw [hw2, World.size_alloc]; omega
 have hS2 : StepAt w2 (w.heap.size + 1) k f t gf gt ins A sl.length c m := by rw [← hz1, hw2]; exact World.alloc_heap_new w1 _
 have hg2 : w.grownBy w2 (some B) := (grown_of_below hb1 _).trans (grown_of_below hb2 _)
 have hn5 := getD_lt5 who seq k f t (by omega) (by omega) (by omega) (by omega) (by omega)
 have hbl5 := vbs_le _ hn5
 simp only [List.length_cons, List.length_nil] at hbl5
 have hW2 := (hW.below hb1 (Nat.le_refl _)).below hb2 (Nat.le_refl _)
 have hnum := numL hW2 hB (by omega) [who, seq, k, f, t] #[.int .i64 who, .int .i64 seq, .int .i64 k, .int .i64 f, .int .i64 t] rfl (by simp) hn5 (by omega)
 rw [hz2, hw2, hw1] at hnum
 obtain ⟨ys, hys⟩ : ∃ ys, xs ++ vbs [who, seq, k, f, t] = ys := ⟨_, rfl⟩
 have hyl : ys.length ≤ 80000000001000 := by rw [← hys, List.length_append]; omega
 rw [hys] at hnum
 rw [← List.append_assoc, hys]
 have HNUM := Lib.hid hnum
 have HG2 := Lib.hid hg2
 have HS2 := Lib.hid hS2
 have HC := Lib.hid hC
 have HBB := Lib.hid hb
 have HTOK := Lib.hid h11
 have HW12 : Hid (w2 = (w.alloc (.cells #[.int .i64 who, .int .i64 seq, .int .i64 k, .int .i64 f, .int .i64 t, .int .i64 gf, .int .i64 gt, .int .i64 ins, .slice A sl.length c, .int .i64 m] 26)).alloc (.cells #[.int .i64 k, .int .i64 f, .int .i64 t, .int .i64 gf, .int .i64 gt, .int .i64 ins, .slice A sl.length c, .int .i64 m] 24)) := Lib.hid (by rw [hw2, hw1])
 clear hW hC hb hnum hg2 hS2 h11 hys hW2 hbl5 hn5 hb1 hb2 hw1 hw2 hz1 hz2
 go_enter Try.func88, Try.ntmps88
 go_upto_region 4 with (go_at_call 110; refine HNUM.out.mono ?_; rintro e w3 ⟨rfl, hw, hg⟩; rw [← HW12.out] at hg; have HX3 := Lib.hid hw; have HG3 := Lib.hid (HG2.out.trans hg); have HS3 := Lib.hid (HS2.out.grown hg (by omega)); have d0 := HS3.out.c0; have d3 := HS3.out.c3; have d4 := HS3.out.c4; have d5 := HS3.out.c5; have d6 := HS3.out.c6; have d7 := HS3.out.c7; clear hw hg)
 rcases (show k = 2 ∨ k = 3 ∨ k = 1 ∨ k = 0 by omega) with rfl | rfl | rfl | rfl
 · obtain ⟨M, rfl⟩ : ∃ M : Nat, m = (M : Int) := ⟨m.toNat, by omega⟩
   have HB3 : Hid (base ≤ w3.heap.size) := Lib.hid (Nat.le_trans hbase HG3.out.size)
   have HM : Hid (M < 9223372036854775808) := Lib.hid (by omega)
   go_wp2_with (go_at_call 110; refine (num1 HX3.out hB HB3.out M HM.out (by omega)).mono ?_; rintro e w4 ⟨rfl, hw, hg⟩; have HX4 := Lib.hid hw; have HG4 := Lib.hid (HG3.out.trans hg); clear hw hg)
   refine bodyPost_ret (results_none rfl _ _ _) rfl ?_
   exact ⟨rfl, by (try rw [if_pos (by simp)]); rw [vbs_one]; exact HX4.out, HG4.out⟩
 · obtain ⟨M, rfl⟩ : ∃ M : Nat, m = (M : Int) := ⟨m.toNat, by omega⟩
   have HB3 : Hid (base ≤ w3.heap.size) := Lib.hid (Nat.le_trans hbase HG3.out.size)
   have HM : Hid (M < 9223372036854775808) := Lib.hid (by omega)
   go_wp2_with (go_at_call 110; refine (num1 HX3.out hB HB3.out M HM.out (by omega)).mono ?_; rintro e w4 ⟨rfl, hw, hg⟩; have HX4 := Lib.hid hw; have HG4 := Lib.hid (HG3.out.trans hg); clear hw hg)
   refine bodyPost_ret (results_none rfl _ _ _) rfl ?_
   exact ⟨rfl, by (try rw [if_pos (by simp)]); rw [vbs_one]; exact HX4.out, HG4.out⟩
 · have HB3 : Hid (base ≤ w3.heap.size) := Lib.hid (Nat.le_trans hbase HG3.out.size)
   have hn3 := getD_lt3 gf gt ins (by omega) (by omega) (by omega)
   have hbl3 := vbs_le _ hn3
   simp only [List.length_cons, List.length_nil] at hbl3
   have HNUM3 := Lib.hid (numL HX3.out hB HB3.out [gf, gt, ins] #[.int .i64 gf, .int .i64 gt, .int .i64 ins] rfl (by simp) hn3 (by omega))
   obtain ⟨zs, hzs⟩ : ∃ zs, ys ++ vbs [gf, gt, ins] = zs := ⟨_, rfl⟩
   have hzl : zs.length ≤ 80000000002000 := by rw [← hzs, List.length_append]; omega
   rw [hzs] at HNUM3
   have HZS := Lib.hid hzs
   clear hzs hn3 hbl3
   go_wp2_with (first
    | (go_at_call 110; refine HNUM3.out.mono ?_; rintro e w4 ⟨rfl, hw, hg⟩; have HX4 := Lib.hid hw; have HG4 := Lib.hid (HG3.out.trans hg); have HS4 := Lib.hid (HS3.out.grown hg (by omega)); have e6 := HS4.out.c6; clear hw hg)
    | (go_at_call 104; refine (wdoc_is HX4.out hB (Nat.le_trans hbase HG4.out.size) A c sl HC.out (below_of_grown HBB.out HG4.out (by omega)) h0 h10 HTOK.out (by omega)).mono ?_; rintro e w5 ⟨rfl, hw, hg⟩; have HX5 := Lib.hid hw; have HG5 := Lib.hid (HG4.out.trans hg); clear hw hg))
   go_end0
   exact ⟨rfl, by (try rw [if_neg (by simp)]); (try rw [if_pos rfl]); rw [← List.append_assoc, HZS.out]; exact HX5.out, HG5.out⟩
 · go_wp2_with (go_at_call 104; refine (wdoc_is HX3.out hB (Nat.le_trans hbase HG3.out.size) A c sl HC.out (below_of_grown HBB.out HG3.out (by omega)) h0 h10 HTOK.out (by omega)).mono ?_; rintro e w4 ⟨rfl, hw, hg⟩; have HX4 := Lib.hid hw; have HG4 := Lib.hid (HG3.out.trans hg); clear hw hg)
   go_end0
   exact ⟨rfl, by (try rw [if_neg (by simp)]); (try rw [if_neg (by simp)]); exact HX4.out, HG4.out⟩
end Go.Proofs.Ytmbnjgnmblgjoaa.Man
end
section
namespace Go.Proofs.Ytmbnjgnmblgjoaa.K
open Go.RowKit Go.Proofs.YtmbnjgnmblgjoaaW.PrintWords Go.Proofs.YtmbnjgnmblgjoaaW.PrintLast Go.Proofs.YtmbnjgnmblgjoaaW.PrintMore
attribute [local go_sem] max2_int min2_int max_two min_two max_three min_three max_four min_four
set_option linter.unusedVariables false
set_option linter.unusedSimpArgs false
theorem eqA111 (d : Nat) (w : World) (x0 y0 : Int) (x1 y1 : Int) (x2 y2 : Int) (x3 y3 : Int) :
 (Op.equalIn (d + 2) 111 (.agg #[.int .i64 x0, .int .i64 x1, .int .i64 x2, .int .i64 x3]) (.agg #[.int .i64 y0, .int .i64 y1, .int .i64 y2, .int .i64 y3])).run Try.prog w = .ok (x0 == y0 && (x1 == y1 && (x2 == y2 && (x3 == y3)))) w := by
 refine eqA_of Try.underlying111 (by kernel_rfl) ?_
 refine eqf_cons (by rfl) (by go_simp; rfl) (by go_simp; rfl) (by go_simp) ?_
 refine eqf_cons (by rfl) (by go_simp; rfl) (by go_simp; rfl) (by go_simp) ?_
 refine eqf_cons (by rfl) (by go_simp; rfl) (by go_simp; rfl) (by go_simp) ?_
 exact eqf_last (by rfl) (by go_simp; rfl) (by go_simp; rfl) (by go_simp)
end Go.Proofs.Ytmbnjgnmblgjoaa.K
end
section
namespace Go.Proofs.Ytmbnjgnmblgjoaa.K
open Go.RowKit Go.Proofs.YtmbnjgnmblgjoaaW.PrintWords Go.Proofs.YtmbnjgnmblgjoaaW.PrintLast Go.Proofs.YtmbnjgnmblgjoaaW.PrintMore
attribute [local go_sem] max2_int min2_int max_two min_two max_three min_three max_four min_four
set_option linter.unusedVariables false
set_option linter.unusedSimpArgs false
attribute [local go_sem high] eqA111
def mark_Right.f (a0 : Int) : Option (Bool) := if a0 ≥ 0 then (some (decide (a0 ≤ 4))) else (some false)
set_option maxHeartbeats 8000000 in
set_option maxRecDepth 100000 in
theorem mark_Right.calls (a0 : Int) (r : Bool) (w : World) (h : mark_Right.f a0 = some r) :
 Calls Try.prog 138 #[.int .i64 a0] w fun e w' => e = .returned (.bool r) ∧ Drawn0 w w' := by
 have H : (if a0 ≥ 0 then (some (decide (a0 ≤ 4))) else (some false)) = some r := h
 clear h
 by_cases c2 : a0 ≥ 0
 · rw [if_pos c2] at H
   have c2b0 : decide (0 ≤ a0) = true := decide_eq_true c2
   clear c2
   obtain rfl := Option.some.inj H
   go_enter Try.func138, Try.ntmps138
   go_wp2
   go_ret
   exact ⟨by first | rfl | (simp; done) | (simp [*]; done), by repeat (first | exact Drawn0.refl _ | apply Drawn0.step)⟩
 · rw [if_neg c2] at H
   have c2b0 : decide (0 ≤ a0) = false := decide_eq_false c2
   clear c2
   obtain rfl := Option.some.inj H
   go_enter Try.func138, Try.ntmps138
   go_wp2
   go_ret
   exact ⟨by first | rfl | (simp; done) | (simp [*]; done), by repeat (first | exact Drawn0.refl _ | apply Drawn0.step)⟩
def flat_Right.f (a0_0 : Int) (a0_1 : Int) (a0_2 : Int) (a0_3 : Int) : Option (Bool) := if a0_0 = 0 then (if a0_1 = 0 then (if a0_2 ≥ 0 then (if a0_2 ≤ 1114111 then (if (a0_2 / 2048) = 27 then (some false) else ((mark_Right.f a0_3).bind fun t102 => (some t102))) else (some false)) else (some false)) else (some false)) else (if a0_0 = 2 then (some (a0_0 == 2 && (a0_1 == 0 && (a0_2 == 0 && (a0_3 == 0))))) else (if a0_0 = 1 then (if a0_1 > 0 then (if a0_1 < 16 then (if a0_2 ≥ 0 then (if a0_2 < 16 then (some (a0_3 == 0)) else (some false)) else (some false)) else (some false)) else (some false)) else (if a0_0 = 3 then (if a0_1 > 0 then (if a0_1 < 16 then (if a0_2 ≥ 0 then (if a0_2 < 16 then (some (a0_3 == 0)) else (some false)) else (some false)) else (some false)) else (some false)) else (some false))))
set_option maxHeartbeats 8000000 in
set_option maxRecDepth 100000 in
theorem flat_Right.calls (a0_0 : Int) (a0_1 : Int) (a0_2 : Int) (a0_3 : Int) (r : Bool) (w : World) (h : flat_Right.f a0_0 a0_1 a0_2 a0_3 = some r) :
 Calls Try.prog 75 #[.agg #[.int .i64 a0_0, .int .i64 a0_1, .int .i64 a0_2, .int .i64 a0_3]] w fun e w' => e = .returned (.bool r) ∧ Below w.heap.size w w' := by
 have hu111 := Try.underlying111
 have HB := Aside0.mk (Below.refl w.heap.size w)
 have H : (if a0_0 = 0 then (if a0_1 = 0 then (if a0_2 ≥ 0 then (if a0_2 ≤ 1114111 then (if (a0_2 / 2048) = 27 then (some false) else ((mark_Right.f a0_3).bind fun t102 => (some t102))) else (some false)) else (some false)) else (some false)) else (if a0_0 = 2 then (some (a0_0 == 2 && (a0_1 == 0 && (a0_2 == 0 && (a0_3 == 0))))) else (if a0_0 = 1 then (if a0_1 > 0 then (if a0_1 < 16 then (if a0_2 ≥ 0 then (if a0_2 < 16 then (some (a0_3 == 0)) else (some false)) else (some false)) else (some false)) else (some false)) else (if a0_0 = 3 then (if a0_1 > 0 then (if a0_1 < 16 then (if a0_2 ≥ 0 then (if a0_2 < 16 then (some (a0_3 == 0)) else (some false)) else (some false)) else (some false)) else (some false)) else (some false))))) = some r := h
 clear h
 by_cases c2 : a0_0 = 0
 · rw [if_pos c2] at H
   have c2b0 : (a0_0 == 0) = true := beq_iff_eq.mpr c2
   have c2b1 : (a0_0 != 0) = false := bne_eq_false_iff_eq.mpr c2
   clear c2
   by_cases c3 : a0_1 = 0
   · rw [if_pos c3] at H
     have c3b0 : (a0_1 == 0) = true := beq_iff_eq.mpr c3
     have c3b1 : (a0_1 != 0) = false := bne_eq_false_iff_eq.mpr c3
     clear c3
     by_cases c4 : a0_2 ≥ 0
     · rw [if_pos c4] at H
       have c4b0 : decide (0 ≤ a0_2) = true := decide_eq_true c4
       clear c4
       by_cases c5 : a0_2 ≤ 1114111
       · rw [if_pos c5] at H
         have c5b0 : decide (a0_2 ≤ 1114111) = true := decide_eq_true c5
         clear c5
         by_cases c6 : (a0_2 / 2048) = 27
         · rw [if_pos c6] at H
           have c6b0 : ((a0_2 / 2048) == 27) = true := beq_iff_eq.mpr c6
           have c6b1 : ((a0_2 / 2048) != 27) = false := bne_eq_false_iff_eq.mpr c6
           clear c6
           obtain rfl := Option.some.inj H
           go_enter Try.func75, Try.ntmps75
           go_wp2_with (first | ((with_reducible refine gate_dst (N := 1) rfl ?_); refine box_event ?hg (N := 1) ?hd (cs := #[.int .i64 a0_0, .int .i64 a0_1, .int .i64 a0_2, .int .i64 a0_3]) (t := 111) ?hr ?_; (case hd => rfl); (case hg => rfl); (case hr => first | (go_simp; done) | (go_simp; rfl)); intro gb101 hg w7 hbox hb; have n0_ := Aside0.mk (below_step (by repeat (first | (with_reducible first | exact HB.out | apply below_alloc | apply pw_below_drewN | apply below_drew1) | exact HB.out)) hb); have n1_ := Aside0.mk (hbox); have n2_ := Aside0.mk ((by rw [hg]; exact (below_size (by repeat (first | (with_reducible first | exact HB.out | apply below_alloc | apply pw_below_drewN | apply below_drew1) | exact HB.out))) : w.heap.size ≤ gb101)); have n3_ := Aside0.mk ((by rw [hg]; exact (below_size (by repeat (first | (with_reducible first | exact HB.out | apply below_alloc | apply pw_below_drewN | apply below_drew1) | exact HB.out))) : w.heap.size ≤ gb101)); clear HB; have HB := n0_; have BK101 := n1_; have GW101 := n2_; have GE101 := n3_; clear n0_ n1_ n2_ n3_; clear hb hbox hg; have hcz8_0 : w7.cell? ⟨gb101, 0, none⟩ = some (.int .i64 a0_0) := (blk_cell BK101.out 0).trans rfl; have hcz8_1 : w7.cell? ⟨gb101, 1, none⟩ = some (.int .i64 a0_1) := (blk_cell BK101.out 1).trans rfl; have hcz8_2 : w7.cell? ⟨gb101, 2, none⟩ = some (.int .i64 a0_2) := (blk_cell BK101.out 2).trans rfl; have hcz8_3 : w7.cell? ⟨gb101, 3, none⟩ = some (.int .i64 a0_3) := (blk_cell BK101.out 3).trans rfl; have hfz8_0 := blk_frozen BK101.out 0; have hfz8_1 := blk_frozen BK101.out 1; have hfz8_2 := blk_frozen BK101.out 2; have hfz8_3 := blk_frozen BK101.out 3))
           go_ret
           exact ⟨by first | rfl | (simp [errW_none, errW_some] <;> rfl) | (simp [*, errW_none, errW_some] <;> rfl), by repeat (first | (with_reducible first | exact HB.out | apply below_alloc | apply pw_below_drewN | apply below_drew1 | refine below_set ?_ GE101.out) | exact HB.out)⟩
         · rw [if_neg c6] at H
           have c6b0 : ((a0_2 / 2048) == 27) = false := beq_eq_false_iff_ne.mpr c6
           have c6b1 : ((a0_2 / 2048) != 27) = true := bne_iff_ne.mpr c6
           replace H := Option.bind_eq_some_iff.mp H
           obtain ⟨t102, A90, H⟩ := H
           replace H : (some t102) = some r := H
           have A9 := Aside0.mk A90
           clear A90
           obtain rfl := Option.some.inj H
           go_enter Try.func75, Try.ntmps75
           go_wp2_with (first | ((with_reducible refine gate_dst (N := 1) rfl ?_); refine box_event ?hg (N := 1) ?hd (cs := #[.int .i64 a0_0, .int .i64 a0_1, .int .i64 a0_2, .int .i64 a0_3]) (t := 111) ?hr ?_; (case hd => rfl); (case hg => rfl); (case hr => first | (go_simp; done) | (go_simp; rfl)); intro gb101 hg w10 hbox hb; have n0_ := Aside0.mk (below_step (by repeat (first | (with_reducible first | exact HB.out | apply below_alloc | apply pw_below_drewN | apply below_drew1) | exact HB.out)) hb); have n1_ := Aside0.mk (hbox); have n2_ := Aside0.mk ((by rw [hg]; exact (below_size (by repeat (first | (with_reducible first | exact HB.out | apply below_alloc | apply pw_below_drewN | apply below_drew1) | exact HB.out))) : w.heap.size ≤ gb101)); have n3_ := Aside0.mk ((by rw [hg]; exact (below_size (by repeat (first | (with_reducible first | exact HB.out | apply below_alloc | apply pw_below_drewN | apply below_drew1) | exact HB.out))) : w.heap.size ≤ gb101)); clear HB; have HB := n0_; have BK101 := n1_; have GW101 := n2_; have GE101 := n3_; clear n0_ n1_ n2_ n3_; clear hb hbox hg; have hcz11_0 : w10.cell? ⟨gb101, 0, none⟩ = some (.int .i64 a0_0) := (blk_cell BK101.out 0).trans rfl; have hcz11_1 : w10.cell? ⟨gb101, 1, none⟩ = some (.int .i64 a0_1) := (blk_cell BK101.out 1).trans rfl; have hcz11_2 : w10.cell? ⟨gb101, 2, none⟩ = some (.int .i64 a0_2) := (blk_cell BK101.out 2).trans rfl; have hcz11_3 : w10.cell? ⟨gb101, 3, none⟩ = some (.int .i64 a0_3) := (blk_cell BK101.out 3).trans rfl; have hfz11_0 := blk_frozen BK101.out 0; have hfz11_1 := blk_frozen BK101.out 1; have hfz11_2 := blk_frozen BK101.out 2; have hfz11_3 := blk_frozen BK101.out 3) | (go_at_call 138; (with_reducible refine (mark_Right.calls a0_3 t102 _ A9.out).mono ?_); rintro e w' ⟨rfl, ⟨nd, rfl⟩⟩))
           go_ret
           exact ⟨by first | rfl | (simp [errW_none, errW_some] <;> rfl) | (simp [*, errW_none, errW_some] <;> rfl), by repeat (first | (with_reducible first | exact HB.out | apply below_alloc | apply pw_below_drewN | apply below_drew1 | refine below_set ?_ GE101.out) | exact HB.out)⟩
       · rw [if_neg c5] at H
         have c5b0 : decide (a0_2 ≤ 1114111) = false := decide_eq_false c5
         clear c5
         obtain rfl := Option.some.inj H
         go_enter Try.func75, Try.ntmps75
         go_wp2_with (first | ((with_reducible refine gate_dst (N := 1) rfl ?_); refine box_event ?hg (N := 1) ?hd (cs := #[.int .i64 a0_0, .int .i64 a0_1, .int .i64 a0_2, .int .i64 a0_3]) (t := 111) ?hr ?_; (case hd => rfl); (case hg => rfl); (case hr => first | (go_simp; done) | (go_simp; rfl)); intro gb101 hg w12 hbox hb; have n0_ := Aside0.mk (below_step (by repeat (first | (with_reducible first | exact HB.out | apply below_alloc | apply pw_below_drewN | apply below_drew1) | exact HB.out)) hb); have n1_ := Aside0.mk (hbox); have n2_ := Aside0.mk ((by rw [hg]; exact (below_size (by repeat (first | (with_reducible first | exact HB.out | apply below_alloc | apply pw_below_drewN | apply below_drew1) | exact HB.out))) : w.heap.size ≤ gb101)); have n3_ := Aside0.mk ((by rw [hg]; exact (below_size (by repeat (first | (with_reducible first | exact HB.out | apply below_alloc | apply pw_below_drewN | apply below_drew1) | exact HB.out))) : w.heap.size ≤ gb101)); clear HB; have HB := n0_; have BK101 := n1_; have GW101 := n2_; have GE101 := n3_; clear n0_ n1_ n2_ n3_; clear hb hbox hg; have hcz13_0 : w12.cell? ⟨gb101, 0, none⟩ = some (.int .i64 a0_0) := (blk_cell BK101.out 0).trans rfl; have hcz13_1 : w12.cell? ⟨gb101, 1, none⟩ = some (.int .i64 a0_1) := (blk_cell BK101.out 1).trans rfl; have hcz13_2 : w12.cell? ⟨gb101, 2, none⟩ = some (.int .i64 a0_2) := (blk_cell BK101.out 2).trans rfl; have hcz13_3 : w12.cell? ⟨gb101, 3, none⟩ = some (.int .i64 a0_3) := (blk_cell BK101.out 3).trans rfl; have hfz13_0 := blk_frozen BK101.out 0; have hfz13_1 := blk_frozen BK101.out 1; have hfz13_2 := blk_frozen BK101.out 2; have hfz13_3 := blk_frozen BK101.out 3))
         go_ret
         exact ⟨by first | rfl | (simp [errW_none, errW_some] <;> rfl) | (simp [*, errW_none, errW_some] <;> rfl), by repeat (first | (with_reducible first | exact HB.out | apply below_alloc | apply pw_below_drewN | apply below_drew1 | refine below_set ?_ GE101.out) | exact HB.out)⟩
     · rw [if_neg c4] at H
       have c4b0 : decide (0 ≤ a0_2) = false := decide_eq_false c4
       clear c4
       obtain rfl := Option.some.inj H
       go_enter Try.func75, Try.ntmps75
       go_wp2_with (first | ((with_reducible refine gate_dst (N := 1) rfl ?_); refine box_event ?hg (N := 1) ?hd (cs := #[.int .i64 a0_0, .int .i64 a0_1, .int .i64 a0_2, .int .i64 a0_3]) (t := 111) ?hr ?_; (case hd => rfl); (case hg => rfl); (case hr => first | (go_simp; done) | (go_simp; rfl)); intro gb101 hg w14 hbox hb; have n0_ := Aside0.mk (below_step (by repeat (first | (with_reducible first | exact HB.out | apply below_alloc | apply pw_below_drewN | apply below_drew1) | exact HB.out)) hb); have n1_ := Aside0.mk (hbox); have n2_ := Aside0.mk ((by rw [hg]; exact (below_size (by repeat (first | (with_reducible first | exact HB.out | apply below_alloc | apply pw_below_drewN | apply below_drew1) | exact HB.out))) : w.heap.size ≤ gb101)); have n3_ := Aside0.mk ((by rw [hg]; exact (below_size (by repeat (first | (with_reducible first | exact HB.out | apply below_alloc | apply pw_below_drewN | apply below_drew1) | exact HB.out))) : w.heap.size ≤ gb101)); clear HB; have HB := n0_; have BK101 := n1_; have GW101 := n2_; have GE101 := n3_; clear n0_ n1_ n2_ n3_; clear hb hbox hg; have hcz15_0 : w14.cell? ⟨gb101, 0, none⟩ = some (.int .i64 a0_0) := (blk_cell BK101.out 0).trans rfl; have hcz15_1 : w14.cell? ⟨gb101, 1, none⟩ = some (.int .i64 a0_1) := (blk_cell BK101.out 1).trans rfl; have hcz15_2 : w14.cell? ⟨gb101, 2, none⟩ = some (.int .i64 a0_2) := (blk_cell BK101.out 2).trans rfl; have hcz15_3 : w14.cell? ⟨gb101, 3, none⟩ = some (.int .i64 a0_3) := (blk_cell BK101.out 3).trans rfl; have hfz15_0 := blk_frozen BK101.out 0; have hfz15_1 := blk_frozen BK101.out 1; have hfz15_2 := blk_frozen BK101.out 2; have hfz15_3 := blk_frozen BK101.out 3))
       go_ret
       exact ⟨by first | rfl | (simp [errW_none, errW_some] <;> rfl) | (simp [*, errW_none, errW_some] <;> rfl), by repeat (first | (with_reducible first | exact HB.out | apply below_alloc | apply pw_below_drewN | apply below_drew1 | refine below_set ?_ GE101.out) | exact HB.out)⟩
   · rw [if_neg c3] at H
     have c3b0 : (a0_1 == 0) = false := beq_eq_false_iff_ne.mpr c3
     have c3b1 : (a0_1 != 0) = true := bne_iff_ne.mpr c3
     obtain rfl := Option.some.inj H
     go_enter Try.func75, Try.ntmps75
     go_wp2_with (first | ((with_reducible refine gate_dst (N := 1) rfl ?_); refine box_event ?hg (N := 1) ?hd (cs := #[.int .i64 a0_0, .int .i64 a0_1, .int .i64 a0_2, .int .i64 a0_3]) (t := 111) ?hr ?_; (case hd => rfl); (case hg => rfl); (case hr => first | (go_simp; done) | (go_simp; rfl)); intro gb101 hg w16 hbox hb; have n0_ := Aside0.mk (below_step (by repeat (first | (with_reducible first | exact HB.out | apply below_alloc | apply pw_below_drewN | apply below_drew1) | exact HB.out)) hb); have n1_ := Aside0.mk (hbox); have n2_ := Aside0.mk ((by rw [hg]; exact (below_size (by repeat (first | (with_reducible first | exact HB.out | apply below_alloc | apply pw_below_drewN | apply below_drew1) | exact HB.out))) : w.heap.size ≤ gb101)); have n3_ := Aside0.mk ((by rw [hg]; exact (below_size (by repeat (first | (with_reducible first | exact HB.out | apply below_alloc | apply pw_below_drewN | apply below_drew1) | exact HB.out))) : w.heap.size ≤ gb101)); clear HB; have HB := n0_; have BK101 := n1_; have GW101 := n2_; have GE101 := n3_; clear n0_ n1_ n2_ n3_; clear hb hbox hg; have hcz17_0 : w16.cell? ⟨gb101, 0, none⟩ = some (.int .i64 a0_0) := (blk_cell BK101.out 0).trans rfl; have hcz17_1 : w16.cell? ⟨gb101, 1, none⟩ = some (.int .i64 a0_1) := (blk_cell BK101.out 1).trans rfl; have hcz17_2 : w16.cell? ⟨gb101, 2, none⟩ = some (.int .i64 a0_2) := (blk_cell BK101.out 2).trans rfl; have hcz17_3 : w16.cell? ⟨gb101, 3, none⟩ = some (.int .i64 a0_3) := (blk_cell BK101.out 3).trans rfl; have hfz17_0 := blk_frozen BK101.out 0; have hfz17_1 := blk_frozen BK101.out 1; have hfz17_2 := blk_frozen BK101.out 2; have hfz17_3 := blk_frozen BK101.out 3))
     go_ret
     exact ⟨by first | rfl | (simp [errW_none, errW_some] <;> rfl) | (simp [*, errW_none, errW_some] <;> rfl), by repeat (first | (with_reducible first | exact HB.out | apply below_alloc | apply pw_below_drewN | apply below_drew1 | refine below_set ?_ GE101.out) | exact HB.out)⟩
 · rw [if_neg c2] at H
   have c2b0 : (a0_0 == 0) = false := beq_eq_false_iff_ne.mpr c2
   have c2b1 : (a0_0 != 0) = true := bne_iff_ne.mpr c2
   by_cases c18 : a0_0 = 2
   · rw [if_pos c18] at H
     have c18b0 : (a0_0 == 2) = true := beq_iff_eq.mpr c18
     have c18b1 : (a0_0 != 2) = false := bne_eq_false_iff_eq.mpr c18
     clear c18
     obtain rfl := Option.some.inj H
     go_enter Try.func75, Try.ntmps75
     go_wp2_with (first | ((with_reducible refine gate_dst (N := 1) rfl ?_); refine box_event ?hg (N := 1) ?hd (cs := #[.int .i64 a0_0, .int .i64 a0_1, .int .i64 a0_2, .int .i64 a0_3]) (t := 111) ?hr ?_; (case hd => rfl); (case hg => rfl); (case hr => first | (go_simp; done) | (go_simp; rfl)); intro gb101 hg w19 hbox hb; have n0_ := Aside0.mk (below_step (by repeat (first | (with_reducible first | exact HB.out | apply below_alloc | apply pw_below_drewN | apply below_drew1) | exact HB.out)) hb); have n1_ := Aside0.mk (hbox); have n2_ := Aside0.mk ((by rw [hg]; exact (below_size (by repeat (first | (with_reducible first | exact HB.out | apply below_alloc | apply pw_below_drewN | apply below_drew1) | exact HB.out))) : w.heap.size ≤ gb101)); have n3_ := Aside0.mk ((by rw [hg]; exact (below_size (by repeat (first | (with_reducible first | exact HB.out | apply below_alloc | apply pw_below_drewN | apply below_drew1) | exact HB.out))) : w.heap.size ≤ gb101)); clear HB; have HB := n0_; have BK101 := n1_; have GW101 := n2_; have GE101 := n3_; clear n0_ n1_ n2_ n3_; clear hb hbox hg; have hcz20_0 : w19.cell? ⟨gb101, 0, none⟩ = some (.int .i64 a0_0) := (blk_cell BK101.out 0).trans rfl; have hcz20_1 : w19.cell? ⟨gb101, 1, none⟩ = some (.int .i64 a0_1) := (blk_cell BK101.out 1).trans rfl; have hcz20_2 : w19.cell? ⟨gb101, 2, none⟩ = some (.int .i64 a0_2) := (blk_cell BK101.out 2).trans rfl; have hcz20_3 : w19.cell? ⟨gb101, 3, none⟩ = some (.int .i64 a0_3) := (blk_cell BK101.out 3).trans rfl; have hfz20_0 := blk_frozen BK101.out 0; have hfz20_1 := blk_frozen BK101.out 1; have hfz20_2 := blk_frozen BK101.out 2; have hfz20_3 := blk_frozen BK101.out 3))
     go_ret
     exact ⟨by first | rfl | (simp [errW_none, errW_some] <;> rfl) | (simp [*, errW_none, errW_some] <;> rfl), by repeat (first | (with_reducible first | exact HB.out | apply below_alloc | apply pw_below_drewN | apply below_drew1 | refine below_set ?_ GE101.out) | exact HB.out)⟩
   · rw [if_neg c18] at H
     have c18b0 : (a0_0 == 2) = false := beq_eq_false_iff_ne.mpr c18
     have c18b1 : (a0_0 != 2) = true := bne_iff_ne.mpr c18
     by_cases c21 : a0_0 = 1
     · rw [if_pos c21] at H
       have c21b0 : (a0_0 == 1) = true := beq_iff_eq.mpr c21
       have c21b1 : (a0_0 != 1) = false := bne_eq_false_iff_eq.mpr c21
       clear c21
       by_cases c22 : a0_1 > 0
       · rw [if_pos c22] at H
         have c22b0 : decide (0 < a0_1) = true := decide_eq_true c22
         clear c22
         by_cases c23 : a0_1 < 16
         · rw [if_pos c23] at H
           have c23b0 : decide (a0_1 < 16) = true := decide_eq_true c23
           clear c23
           by_cases c24 : a0_2 ≥ 0
           · rw [if_pos c24] at H
             have c24b0 : decide (0 ≤ a0_2) = true := decide_eq_true c24
             clear c24
             by_cases c25 : a0_2 < 16
             · rw [if_pos c25] at H
               have c25b0 : decide (a0_2 < 16) = true := decide_eq_true c25
               clear c25
               obtain rfl := Option.some.inj H
               go_enter Try.func75, Try.ntmps75
               go_wp2_with (first | ((with_reducible refine gate_dst (N := 1) rfl ?_); refine box_event ?hg (N := 1) ?hd (cs := #[.int .i64 a0_0, .int .i64 a0_1, .int .i64 a0_2, .int .i64 a0_3]) (t := 111) ?hr ?_; (case hd => rfl); (case hg => rfl); (case hr => first | (go_simp; done) | (go_simp; rfl)); intro gb101 hg w26 hbox hb; have n0_ := Aside0.mk (below_step (by repeat (first | (with_reducible first | exact HB.out | apply below_alloc | apply pw_below_drewN | apply below_drew1) | exact HB.out)) hb); have n1_ := Aside0.mk (hbox); have n2_ := Aside0.mk ((by rw [hg]; exact (below_size (by repeat (first | (with_reducible first | exact HB.out | apply below_alloc | apply pw_below_drewN | apply below_drew1) | exact HB.out))) : w.heap.size ≤ gb101)); have n3_ := Aside0.mk ((by rw [hg]; exact (below_size (by repeat (first | (with_reducible first | exact HB.out | apply below_alloc | apply pw_below_drewN | apply below_drew1) | exact HB.out))) : w.heap.size ≤ gb101)); clear HB; have HB := n0_; have BK101 := n1_; have GW101 := n2_; have GE101 := n3_; clear n0_ n1_ n2_ n3_; clear hb hbox hg; have hcz27_0 : w26.cell? ⟨gb101, 0, none⟩ = some (.int .i64 a0_0) := (blk_cell BK101.out 0).trans rfl; have hcz27_1 : w26.cell? ⟨gb101, 1, none⟩ = some (.int .i64 a0_1) := (blk_cell BK101.out 1).trans rfl; have hcz27_2 : w26.cell? ⟨gb101, 2, none⟩ = some (.int .i64 a0_2) := (blk_cell BK101.out 2).trans rfl; have hcz27_3 : w26.cell? ⟨gb101, 3, none⟩ = some (.int .i64 a0_3) := (blk_cell BK101.out 3).trans rfl; have hfz27_0 := blk_frozen BK101.out 0; have hfz27_1 := blk_frozen BK101.out 1; have hfz27_2 := blk_frozen BK101.out 2; have hfz27_3 := blk_frozen BK101.out 3))
               go_ret
               exact ⟨by first | rfl | (simp [errW_none, errW_some] <;> rfl) | (simp [*, errW_none, errW_some] <;> rfl), by repeat (first | (with_reducible first | exact HB.out | apply below_alloc | apply pw_below_drewN | apply below_drew1 | refine below_set ?_ GE101.out) | exact HB.out)⟩
             · rw [if_neg c25] at H
               have c25b0 : decide (a0_2 < 16) = false := decide_eq_false c25
               clear c25
               obtain rfl := Option.some.inj H
               go_enter Try.func75, Try.ntmps75
               go_wp2_with (first | ((with_reducible refine gate_dst (N := 1) rfl ?_); refine box_event ?hg (N := 1) ?hd (cs := #[.int .i64 a0_0, .int .i64 a0_1, .int .i64 a0_2, .int .i64 a0_3]) (t := 111) ?hr ?_; (case hd => rfl); (case hg => rfl); (case hr => first | (go_simp; done) | (go_simp; rfl)); intro gb101 hg w28 hbox hb; have n0_ := Aside0.mk (below_step (by repeat (first | (with_reducible first | exact HB.out | apply below_alloc | apply pw_below_drewN | apply below_drew1) | exact HB.out)) hb); have n1_ := Aside0.mk (hbox); have n2_ := Aside0.mk ((by rw [hg]; exact (below_size (by repeat (first | (with_reducible first | exact HB.out | apply below_alloc | apply pw_below_drewN | apply below_drew1) | exact HB.out))) : w.heap.size ≤ gb101)); have n3_ := Aside0.mk ((by rw [hg]; exact (below_size (by repeat (first | (with_reducible first | exact HB.out | apply below_alloc | apply pw_below_drewN | apply below_drew1) | exact HB.out))) : w.heap.size ≤ gb101)); clear HB; have HB := n0_; have BK101 := n1_; have GW101 := n2_; have GE101 := n3_; clear n0_ n1_ n2_ n3_; clear hb hbox hg; have hcz29_0 : w28.cell? ⟨gb101, 0, none⟩ = some (.int .i64 a0_0) := (blk_cell BK101.out 0).trans rfl; have hcz29_1 : w28.cell? ⟨gb101, 1, none⟩ = some (.int .i64 a0_1) := (blk_cell BK101.out 1).trans rfl; have hcz29_2 : w28.cell? ⟨gb101, 2, none⟩ = some (.int .i64 a0_2) := (blk_cell BK101.out 2).trans rfl; have hcz29_3 : w28.cell? ⟨gb101, 3, none⟩ = some (.int .i64 a0_3) := (blk_cell BK101.out 3).trans rfl; have hfz29_0 := blk_frozen BK101.out 0; have hfz29_1 := blk_frozen BK101.out 1; have hfz29_2 := blk_frozen BK101.out 2; have hfz29_3 := blk_frozen BK101.out 3))
               go_ret
               exact ⟨by first | rfl | (simp [errW_none, errW_some] <;> rfl) | (simp [*, errW_none, errW_some] <;> rfl), by repeat (first | (with_reducible first | exact HB.out | apply below_alloc | apply pw_below_drewN | apply below_drew1 | refine below_set ?_ GE101.out) | exact HB.out)⟩
           · rw [if_neg c24] at H
             have c24b0 : decide (0 ≤ a0_2) = false := decide_eq_false c24
             clear c24
             obtain rfl := Option.some.inj H
             go_enter Try.func75, Try.ntmps75
             go_wp2_with (first | ((with_reducible refine gate_dst (N := 1) rfl ?_); refine box_event ?hg (N := 1) ?hd (cs := #[.int .i64 a0_0, .int .i64 a0_1, .int .i64 a0_2, .int .i64 a0_3]) (t := 111) ?hr ?_; (case hd => rfl); (case hg => rfl); (case hr => first | (go_simp; done) | (go_simp; rfl)); intro gb101 hg w30 hbox hb; have n0_ := Aside0.mk (below_step (by repeat (first | (with_reducible first | exact HB.out | apply below_alloc | apply pw_below_drewN | apply below_drew1) | exact HB.out)) hb); have n1_ := Aside0.mk (hbox); have n2_ := Aside0.mk ((by rw [hg]; exact (below_size (by repeat (first | (with_reducible first | exact HB.out | apply below_alloc | apply pw_below_drewN | apply below_drew1) | exact HB.out))) : w.heap.size ≤ gb101)); have n3_ := Aside0.mk ((by rw [hg]; exact (below_size (by repeat (first | (with_reducible first | exact HB.out | apply below_alloc | apply pw_below_drewN | apply below_drew1) | exact HB.out))) : w.heap.size ≤ gb101)); clear HB; have HB := n0_; have BK101 := n1_; have GW101 := n2_; have GE101 := n3_; clear n0_ n1_ n2_ n3_; clear hb hbox hg; have hcz31_0 : w30.cell? ⟨gb101, 0, none⟩ = some (.int .i64 a0_0) := (blk_cell BK101.out 0).trans rfl; have hcz31_1 : w30.cell? ⟨gb101, 1, none⟩ = some (.int .i64 a0_1) := (blk_cell BK101.out 1).trans rfl; have hcz31_2 : w30.cell? ⟨gb101, 2, none⟩ = some (.int .i64 a0_2) := (blk_cell BK101.out 2).trans rfl; have hcz31_3 : w30.cell? ⟨gb101, 3, none⟩ = some (.int .i64 a0_3) := (blk_cell BK101.out 3).trans rfl; have hfz31_0 := blk_frozen BK101.out 0; have hfz31_1 := blk_frozen BK101.out 1; have hfz31_2 := blk_frozen BK101.out 2; have hfz31_3 := blk_frozen BK101.out 3))
             go_ret
             exact ⟨by first | rfl | (simp [errW_none, errW_some] <;> rfl) | (simp [*, errW_none, errW_some] <;> rfl), by repeat (first | (with_reducible first | exact HB.out | apply below_alloc | apply pw_below_drewN | apply below_drew1 | refine below_set ?_ GE101.out) | exact HB.out)⟩
         · rw [if_neg c23] at H
           have c23b0 : decide (a0_1 < 16) = false := decide_eq_false c23
           clear c23
           obtain rfl := Option.some.inj H
           go_enter Try.func75, Try.ntmps75
           go_wp2_with (first | ((with_reducible refine gate_dst (N := 1) rfl ?_); refine box_event ?hg (N := 1) ?hd (cs := #[.int .i64 a0_0, .int .i64 a0_1, .int .i64 a0_2, .int .i64 a0_3]) (t := 111) ?hr ?_; (case hd => rfl); (case hg => rfl); (case hr => first | (go_simp; done) | (go_simp; rfl)); intro gb101 hg w32 hbox hb; have n0_ := Aside0.mk (below_step (by repeat (first | (with_reducible first | exact HB.out | apply below_alloc | apply pw_below_drewN | apply below_drew1) | exact HB.out)) hb); have n1_ := Aside0.mk (hbox); have n2_ := Aside0.mk ((by rw [hg]; exact (below_size (by repeat (first | (with_reducible first | exact HB.out | apply below_alloc | apply pw_below_drewN | apply below_drew1) | exact HB.out))) : w.heap.size ≤ gb101)); have n3_ := Aside0.mk ((by rw [hg]; exact (below_size (by repeat (first | (with_reducible first | exact HB.out | apply below_alloc | apply pw_below_drewN | apply below_drew1) | exact HB.out))) : w.heap.size ≤ gb101)); clear HB; have HB := n0_; have BK101 := n1_; have GW101 := n2_; have GE101 := n3_; clear n0_ n1_ n2_ n3_; clear hb hbox hg; have hcz33_0 : w32.cell? ⟨gb101, 0, none⟩ = some (.int .i64 a0_0) := (blk_cell BK101.out 0).trans rfl; have hcz33_1 : w32.cell? ⟨gb101, 1, none⟩ = some (.int .i64 a0_1) := (blk_cell BK101.out 1).trans rfl; have hcz33_2 : w32.cell? ⟨gb101, 2, none⟩ = some (.int .i64 a0_2) := (blk_cell BK101.out 2).trans rfl; have hcz33_3 : w32.cell? ⟨gb101, 3, none⟩ = some (.int .i64 a0_3) := (blk_cell BK101.out 3).trans rfl; have hfz33_0 := blk_frozen BK101.out 0; have hfz33_1 := blk_frozen BK101.out 1; have hfz33_2 := blk_frozen BK101.out 2; have hfz33_3 := blk_frozen BK101.out 3))
           go_ret
           exact ⟨by first | rfl | (simp [errW_none, errW_some] <;> rfl) | (simp [*, errW_none, errW_some] <;> rfl), by repeat (first | (with_reducible first | exact HB.out | apply below_alloc | apply pw_below_drewN | apply below_drew1 | refine below_set ?_ GE101.out) | exact HB.out)⟩
       · rw [if_neg c22] at H
         have c22b0 : decide (0 < a0_1) = false := decide_eq_false c22
         clear c22
         obtain rfl := Option.some.inj H
         go_enter Try.func75, Try.ntmps75
         go_wp2_with (first | ((with_reducible refine gate_dst (N := 1) rfl ?_); refine box_event ?hg (N := 1) ?hd (cs := #[.int .i64 a0_0, .int .i64 a0_1, .int .i64 a0_2, .int .i64 a0_3]) (t := 111) ?hr ?_; (case hd => rfl); (case hg => rfl); (case hr => first | (go_simp; done) | (go_simp; rfl)); intro gb101 hg w34 hbox hb; have n0_ := Aside0.mk (below_step (by repeat (first | (with_reducible first | exact HB.out | apply below_alloc | apply pw_below_drewN | apply below_drew1) | exact HB.out)) hb); have n1_ := Aside0.mk (hbox); have n2_ := Aside0.mk ((by rw [hg]; exact (below_size (by repeat (first | (with_reducible first | exact HB.out | apply below_alloc | apply pw_below_drewN | apply below_drew1) | exact HB.out))) : w.heap.size ≤ gb101)); have n3_ := Aside0.mk ((by rw [hg]; exact (below_size (by repeat (first | (with_reducible first | exact HB.out | apply below_alloc | apply pw_below_drewN | apply below_drew1) | exact HB.out))) : w.heap.size ≤ gb101)); clear HB; have HB := n0_; have BK101 := n1_; have GW101 := n2_; have GE101 := n3_; clear n0_ n1_ n2_ n3_; clear hb hbox hg; have hcz35_0 : w34.cell? ⟨gb101, 0, none⟩ = some (.int .i64 a0_0) := (blk_cell BK101.out 0).trans rfl; have hcz35_1 : w34.cell? ⟨gb101, 1, none⟩ = some (.int .i64 a0_1) := (blk_cell BK101.out 1).trans rfl; have hcz35_2 : w34.cell? ⟨gb101, 2, none⟩ = some (.int .i64 a0_2) := (blk_cell BK101.out 2).trans rfl; have hcz35_3 : w34.cell? ⟨gb101, 3, none⟩ = some (.int .i64 a0_3) := (blk_cell BK101.out 3).trans rfl; have hfz35_0 := blk_frozen BK101.out 0; have hfz35_1 := blk_frozen BK101.out 1; have hfz35_2 := blk_frozen BK101.out 2; have hfz35_3 := blk_frozen BK101.out 3))
         go_ret
         exact ⟨by first | rfl | (simp [errW_none, errW_some] <;> rfl) | (simp [*, errW_none, errW_some] <;> rfl), by repeat (first | (with_reducible first | exact HB.out | apply below_alloc | apply pw_below_drewN | apply below_drew1 | refine below_set ?_ GE101.out) | exact HB.out)⟩
     · rw [if_neg c21] at H
       have c21b0 : (a0_0 == 1) = false := beq_eq_false_iff_ne.mpr c21
       have c21b1 : (a0_0 != 1) = true := bne_iff_ne.mpr c21
       by_cases c36 : a0_0 = 3
       · rw [if_pos c36] at H
         have c36b0 : (a0_0 == 3) = true := beq_iff_eq.mpr c36
         have c36b1 : (a0_0 != 3) = false := bne_eq_false_iff_eq.mpr c36
         clear c36
         by_cases c37 : a0_1 > 0
         · rw [if_pos c37] at H
           have c37b0 : decide (0 < a0_1) = true := decide_eq_true c37
           clear c37
           by_cases c38 : a0_1 < 16
           · rw [if_pos c38] at H
             have c38b0 : decide (a0_1 < 16) = true := decide_eq_true c38
             clear c38
             by_cases c39 : a0_2 ≥ 0
             · rw [if_pos c39] at H
               have c39b0 : decide (0 ≤ a0_2) = true := decide_eq_true c39
               clear c39
               by_cases c40 : a0_2 < 16
               · rw [if_pos c40] at H
                 have c40b0 : decide (a0_2 < 16) = true := decide_eq_true c40
                 clear c40
                 obtain rfl := Option.some.inj H
                 go_enter Try.func75, Try.ntmps75
                 go_wp2_with (first | ((with_reducible refine gate_dst (N := 1) rfl ?_); refine box_event ?hg (N := 1) ?hd (cs := #[.int .i64 a0_0, .int .i64 a0_1, .int .i64 a0_2, .int .i64 a0_3]) (t := 111) ?hr ?_; (case hd => rfl); (case hg => rfl); (case hr => first | (go_simp; done) | (go_simp; rfl)); intro gb101 hg w41 hbox hb; have n0_ := Aside0.mk (below_step (by repeat (first | (with_reducible first | exact HB.out | apply below_alloc | apply pw_below_drewN | apply below_drew1) | exact HB.out)) hb); have n1_ := Aside0.mk (hbox); have n2_ := Aside0.mk ((by rw [hg]; exact (below_size (by repeat (first | (with_reducible first | exact HB.out | apply below_alloc | apply pw_below_drewN | apply below_drew1) | exact HB.out))) : w.heap.size ≤ gb101)); have n3_ := Aside0.mk ((by rw [hg]; exact (below_size (by repeat (first | (with_reducible first | exact HB.out | apply below_alloc | apply pw_below_drewN | apply below_drew1) | exact HB.out))) : w.heap.size ≤ gb101)); clear HB; have HB := n0_; have BK101 := n1_; have GW101 := n2_; have GE101 := n3_; clear n0_ n1_ n2_ n3_; clear hb hbox hg; have hcz42_0 : w41.cell? ⟨gb101, 0, none⟩ = some (.int .i64 a0_0) := (blk_cell BK101.out 0).trans rfl; have hcz42_1 : w41.cell? ⟨gb101, 1, none⟩ = some (.int .i64 a0_1) := (blk_cell BK101.out 1).trans rfl; have hcz42_2 : w41.cell? ⟨gb101, 2, none⟩ = some (.int .i64 a0_2) := (blk_cell BK101.out 2).trans rfl; have hcz42_3 : w41.cell? ⟨gb101, 3, none⟩ = some (.int .i64 a0_3) := (blk_cell BK101.out 3).trans rfl; have hfz42_0 := blk_frozen BK101.out 0; have hfz42_1 := blk_frozen BK101.out 1; have hfz42_2 := blk_frozen BK101.out 2; have hfz42_3 := blk_frozen BK101.out 3))
                 go_ret
                 exact ⟨by first | rfl | (simp [errW_none, errW_some] <;> rfl) | (simp [*, errW_none, errW_some] <;> rfl), by repeat (first | (with_reducible first | exact HB.out | apply below_alloc | apply pw_below_drewN | apply below_drew1 | refine below_set ?_ GE101.out) | exact HB.out)⟩
               · rw [if_neg c40] at H
                 have c40b0 : decide (a0_2 < 16) = false := decide_eq_false c40
                 clear c40
                 obtain rfl := Option.some.inj H
                 go_enter Try.func75, Try.ntmps75
                 go_wp2_with (first | ((with_reducible refine gate_dst (N := 1) rfl ?_); refine box_event ?hg (N := 1) ?hd (cs := #[.int .i64 a0_0, .int .i64 a0_1, .int .i64 a0_2, .int .i64 a0_3]) (t := 111) ?hr ?_; (case hd => rfl); (case hg => rfl); (case hr => first | (go_simp; done) | (go_simp; rfl)); intro gb101 hg w43 hbox hb; have n0_ := Aside0.mk (below_step (by repeat (first | (with_reducible first | exact HB.out | apply below_alloc | apply pw_below_drewN | apply below_drew1) | exact HB.out)) hb); have n1_ := Aside0.mk (hbox); have n2_ := Aside0.mk ((by rw [hg]; exact (below_size (by repeat (first | (with_reducible first | exact HB.out | apply below_alloc | apply pw_below_drewN | apply below_drew1) | exact HB.out))) : w.heap.size ≤ gb101)); have n3_ := Aside0.mk ((by rw [hg]; exact (below_size (by repeat (first | (with_reducible first | exact HB.out | apply below_alloc | apply pw_below_drewN | apply below_drew1) | exact HB.out))) : w.heap.size ≤ gb101)); clear HB; have HB := n0_; have BK101 := n1_; have GW101 := n2_; have GE101 := n3_; clear n0_ n1_ n2_ n3_; clear hb hbox hg; have hcz44_0 : w43.cell? ⟨gb101, 0, none⟩ = some (.int .i64 a0_0) := (blk_cell BK101.out 0).trans rfl; have hcz44_1 : w43.cell? ⟨gb101, 1, none⟩ = some (.int .i64 a0_1) := (blk_cell BK101.out 1).trans rfl; have hcz44_2 : w43.cell? ⟨gb101, 2, none⟩ = some (.int .i64 a0_2) := (blk_cell BK101.out 2).trans rfl; have hcz44_3 : w43.cell? ⟨gb101, 3, none⟩ = some (.int .i64 a0_3) := (blk_cell BK101.out 3).trans rfl; have hfz44_0 := blk_frozen BK101.out 0; have hfz44_1 := blk_frozen BK101.out 1; have hfz44_2 := blk_frozen BK101.out 2; have hfz44_3 := blk_frozen BK101.out 3))
                 go_ret
                 exact ⟨by first | rfl | (simp [errW_none, errW_some] <;> rfl) | (simp [*, errW_none, errW_some] <;> rfl), by repeat (first | (with_reducible first | exact HB.out | apply below_alloc | apply pw_below_drewN | apply below_drew1 | refine below_set ?_ GE101.out) | exact HB.out)⟩
             · rw [if_neg c39] at H
               have c39b0 : decide (0 ≤ a0_2) = false := decide_eq_false c39
               clear c39
               obtain rfl := Option.some.inj H
               go_enter Try.func75, Try.ntmps75
               go_wp2_with (first | ((with_reducible refine gate_dst (N := 1) rfl ?_); refine box_event ?hg (N := 1) ?hd (cs := #[.int .i64 a0_0, .int .i64 a0_1, .int .i64 a0_2, .int .i64 a0_3]) (t := 111) ?hr ?_; (case hd => rfl); (case hg => rfl); (case hr => first | (go_simp; done) | (go_simp; rfl)); intro gb101 hg w45 hbox hb; have n0_ := Aside0.mk (below_step (by repeat (first | (with_reducible first | exact HB.out | apply below_alloc | apply pw_below_drewN | apply below_drew1) | exact HB.out)) hb); have n1_ := Aside0.mk (hbox); have n2_ := Aside0.mk ((by rw [hg]; exact (below_size (by repeat (first | (with_reducible first | exact HB.out | apply below_alloc | apply pw_below_drewN | apply below_drew1) | exact HB.out))) : w.heap.size ≤ gb101)); have n3_ := Aside0.mk ((by rw [hg]; exact (below_size (by repeat (first | (with_reducible first | exact HB.out | apply below_alloc | apply pw_below_drewN | apply below_drew1) | exact HB.out))) : w.heap.size ≤ gb101)); clear HB; have HB := n0_; have BK101 := n1_; have GW101 := n2_; have GE101 := n3_; clear n0_ n1_ n2_ n3_; clear hb hbox hg; have hcz46_0 : w45.cell? ⟨gb101, 0, none⟩ = some (.int .i64 a0_0) := (blk_cell BK101.out 0).trans rfl; have hcz46_1 : w45.cell? ⟨gb101, 1, none⟩ = some (.int .i64 a0_1) := (blk_cell BK101.out 1).trans rfl; have hcz46_2 : w45.cell? ⟨gb101, 2, none⟩ = some (.int .i64 a0_2) := (blk_cell BK101.out 2).trans rfl; have hcz46_3 : w45.cell? ⟨gb101, 3, none⟩ = some (.int .i64 a0_3) := (blk_cell BK101.out 3).trans rfl; have hfz46_0 := blk_frozen BK101.out 0; have hfz46_1 := blk_frozen BK101.out 1; have hfz46_2 := blk_frozen BK101.out 2; have hfz46_3 := blk_frozen BK101.out 3))
               go_ret
               exact ⟨by first | rfl | (simp [errW_none, errW_some] <;> rfl) | (simp [*, errW_none, errW_some] <;> rfl), by repeat (first | (with_reducible first | exact HB.out | apply below_alloc | apply pw_below_drewN | apply below_drew1 | refine below_set ?_ GE101.out) | exact HB.out)⟩
           · rw [if_neg c38] at H
             have c38b0 : decide (a0_1 < 16) = false := decide_eq_false c38
             clear c38
             obtain rfl := Option.some.inj H
             go_enter Try.func75, Try.ntmps75
             go_wp2_with (first | ((with_reducible refine gate_dst (N := 1) rfl ?_); refine box_event ?hg (N := 1) ?hd (cs := #[.int .i64 a0_0, .int .i64 a0_1, .int .i64 a0_2, .int .i64 a0_3]) (t := 111) ?hr ?_; (case hd => rfl); (case hg => rfl); (case hr => first | (go_simp; done) | (go_simp; rfl)); intro gb101 hg w47 hbox hb; have n0_ := Aside0.mk (below_step (by repeat (first | (with_reducible first | exact HB.out | apply below_alloc | apply pw_below_drewN | apply below_drew1) | exact HB.out)) hb); have n1_ := Aside0.mk (hbox); have n2_ := Aside0.mk ((by rw [hg]; exact (below_size (by repeat (first | (with_reducible first | exact HB.out | apply below_alloc | apply pw_below_drewN | apply below_drew1) | exact HB.out))) : w.heap.size ≤ gb101)); have n3_ := Aside0.mk ((by rw [hg]; exact (below_size (by repeat (first | (with_reducible first | exact HB.out | apply below_alloc | apply pw_below_drewN | apply below_drew1) | exact HB.out))) : w.heap.size ≤ gb101)); clear HB; have HB := n0_; have BK101 := n1_; have GW101 := n2_; have GE101 := n3_; clear n0_ n1_ n2_ n3_; clear hb hbox hg; have hcz48_0 : w47.cell? ⟨gb101, 0, none⟩ = some (.int .i64 a0_0) := (blk_cell BK101.out 0).trans rfl; have hcz48_1 : w47.cell? ⟨gb101, 1, none⟩ = some (.int .i64 a0_1) := (blk_cell BK101.out 1).trans rfl; have hcz48_2 : w47.cell? ⟨gb101, 2, none⟩ = some (.int .i64 a0_2) := (blk_cell BK101.out 2).trans rfl; have hcz48_3 : w47.cell? ⟨gb101, 3, none⟩ = some (.int .i64 a0_3) := (blk_cell BK101.out 3).trans rfl; have hfz48_0 := blk_frozen BK101.out 0; have hfz48_1 := blk_frozen BK101.out 1; have hfz48_2 := blk_frozen BK101.out 2; have hfz48_3 := blk_frozen BK101.out 3))
             go_ret
             exact ⟨by first | rfl | (simp [errW_none, errW_some] <;> rfl) | (simp [*, errW_none, errW_some] <;> rfl), by repeat (first | (with_reducible first | exact HB.out | apply below_alloc | apply pw_below_drewN | apply below_drew1 | refine below_set ?_ GE101.out) | exact HB.out)⟩
         · rw [if_neg c37] at H
           have c37b0 : decide (0 < a0_1) = false := decide_eq_false c37
           clear c37
           obtain rfl := Option.some.inj H
           go_enter Try.func75, Try.ntmps75
           go_wp2_with (first | ((with_reducible refine gate_dst (N := 1) rfl ?_); refine box_event ?hg (N := 1) ?hd (cs := #[.int .i64 a0_0, .int .i64 a0_1, .int .i64 a0_2, .int .i64 a0_3]) (t := 111) ?hr ?_; (case hd => rfl); (case hg => rfl); (case hr => first | (go_simp; done) | (go_simp; rfl)); intro gb101 hg w49 hbox hb; have n0_ := Aside0.mk (below_step (by repeat (first | (with_reducible first | exact HB.out | apply below_alloc | apply pw_below_drewN | apply below_drew1) | exact HB.out)) hb); have n1_ := Aside0.mk (hbox); have n2_ := Aside0.mk ((by rw [hg]; exact (below_size (by repeat (first | (with_reducible first | exact HB.out | apply below_alloc | apply pw_below_drewN | apply below_drew1) | exact HB.out))) : w.heap.size ≤ gb101)); have n3_ := Aside0.mk ((by rw [hg]; exact (below_size (by repeat (first | (with_reducible first | exact HB.out | apply below_alloc | apply pw_below_drewN | apply below_drew1) | exact HB.out))) : w.heap.size ≤ gb101)); clear HB; have HB := n0_; have BK101 := n1_; have GW101 := n2_; have GE101 := n3_; clear n0_ n1_ n2_ n3_; clear hb hbox hg; have hcz50_0 : w49.cell? ⟨gb101, 0, none⟩ = some (.int .i64 a0_0) := (blk_cell BK101.out 0).trans rfl; have hcz50_1 : w49.cell? ⟨gb101, 1, none⟩ = some (.int .i64 a0_1) := (blk_cell BK101.out 1).trans rfl; have hcz50_2 : w49.cell? ⟨gb101, 2, none⟩ = some (.int .i64 a0_2) := (blk_cell BK101.out 2).trans rfl; have hcz50_3 : w49.cell? ⟨gb101, 3, none⟩ = some (.int .i64 a0_3) := (blk_cell BK101.out 3).trans rfl; have hfz50_0 := blk_frozen BK101.out 0; have hfz50_1 := blk_frozen BK101.out 1; have hfz50_2 := blk_frozen BK101.out 2; have hfz50_3 := blk_frozen BK101.out 3))
           go_ret
           exact ⟨by first | rfl | (simp [errW_none, errW_some] <;> rfl) | (simp [*, errW_none, errW_some] <;> rfl), by repeat (first | (with_reducible first | exact HB.out | apply below_alloc | apply pw_below_drewN | apply below_drew1 | refine below_set ?_ GE101.out) | exact HB.out)⟩
       · rw [if_neg c36] at H
         have c36b0 : (a0_0 == 3) = false := beq_eq_false_iff_ne.mpr c36
         have c36b1 : (a0_0 != 3) = true := bne_iff_ne.mpr c36
         obtain rfl := Option.some.inj H
         go_enter Try.func75, Try.ntmps75
         go_wp2_with (first | ((with_reducible refine gate_dst (N := 1) rfl ?_); refine box_event ?hg (N := 1) ?hd (cs := #[.int .i64 a0_0, .int .i64 a0_1, .int .i64 a0_2, .int .i64 a0_3]) (t := 111) ?hr ?_; (case hd => rfl); (case hg => rfl); (case hr => first | (go_simp; done) | (go_simp; rfl)); intro gb101 hg w51 hbox hb; have n0_ := Aside0.mk (below_step (by repeat (first | (with_reducible first | exact HB.out | apply below_alloc | apply pw_below_drewN | apply below_drew1) | exact HB.out)) hb); have n1_ := Aside0.mk (hbox); have n2_ := Aside0.mk ((by rw [hg]; exact (below_size (by repeat (first | (with_reducible first | exact HB.out | apply below_alloc | apply pw_below_drewN | apply below_drew1) | exact HB.out))) : w.heap.size ≤ gb101)); have n3_ := Aside0.mk ((by rw [hg]; exact (below_size (by repeat (first | (with_reducible first | exact HB.out | apply below_alloc | apply pw_below_drewN | apply below_drew1) | exact HB.out))) : w.heap.size ≤ gb101)); clear HB; have HB := n0_; have BK101 := n1_; have GW101 := n2_; have GE101 := n3_; clear n0_ n1_ n2_ n3_; clear hb hbox hg; have hcz52_0 : w51.cell? ⟨gb101, 0, none⟩ = some (.int .i64 a0_0) := (blk_cell BK101.out 0).trans rfl; have hcz52_1 : w51.cell? ⟨gb101, 1, none⟩ = some (.int .i64 a0_1) := (blk_cell BK101.out 1).trans rfl; have hcz52_2 : w51.cell? ⟨gb101, 2, none⟩ = some (.int .i64 a0_2) := (blk_cell BK101.out 2).trans rfl; have hcz52_3 : w51.cell? ⟨gb101, 3, none⟩ = some (.int .i64 a0_3) := (blk_cell BK101.out 3).trans rfl; have hfz52_0 := blk_frozen BK101.out 0; have hfz52_1 := blk_frozen BK101.out 1; have hfz52_2 := blk_frozen BK101.out 2; have hfz52_3 := blk_frozen BK101.out 3))
         go_ret
         exact ⟨by first | rfl | (simp [errW_none, errW_some] <;> rfl) | (simp [*, errW_none, errW_some] <;> rfl), by repeat (first | (with_reducible first | exact HB.out | apply below_alloc | apply pw_below_drewN | apply below_drew1 | refine below_set ?_ GE101.out) | exact HB.out)⟩
def mark_place.l0 : Nat → Int → Int → Option (Int)
 | 0, _, _ => none
 | k + 1, x0, x3 => if x3 < 3 then (if 0 ≤ x3 then (if x0 = (shl .i64 1 x3) then (some x3) else (mark_place.l0 k x0 (wrap64 (x3 + 1)))) else (none)) else (some 3)
def mark_place.f (k : Nat) (a0 : Int) : Option (Int) := mark_place.l0 k a0 0
theorem mark_place.mono_l : ∀ k, (∀ y0 y1, LeO (mark_place.l0 k y0 y1) (mark_place.l0 (k + 1) y0 y1))
 | 0 => fun _ _ r h => by simp [mark_place.l0] at h
 | k + 1 => by
  have ih0 := mark_place.mono_l k
  · intro y0 y1
    unfold mark_place.l0
    repeat' first
    | (with_reducible exact ih0 _ _)
    | (with_reducible exact LeO.refl _)
    | (with_reducible exact LeO.none _)
    | (with_reducible refine LeO.ite ?_ ?_)
    | (with_reducible refine LeO.bind ?_ (fun _ => ?_))
    | exact ih0 _ _
    | exact LeO.none _
    | refine LeO.ite ?_ ?_
    | refine LeO.bind ?_ (fun _ => ?_)
theorem mark_place.mono : ∀ a0 k, LeO (mark_place.f k a0) (mark_place.f (k + 1) a0) := by
 intro a0 k
 have ih0 := mark_place.mono_l k
 unfold mark_place.f
 repeat' first
  | (with_reducible exact ih0 _ _)
  | (with_reducible exact LeO.refl _)
  | (with_reducible exact LeO.none _)
  | (with_reducible refine LeO.ite ?_ ?_)
  | (with_reducible refine LeO.bind ?_ (fun _ => ?_))
  | exact ih0 _ _
  | exact LeO.none _
  | refine LeO.ite ?_ ?_
  | refine LeO.bind ?_ (fun _ => ?_)
set_option maxHeartbeats 8000000 in
set_option maxRecDepth 100000 in
theorem mark_place.calls (k : Nat) (a0 : Int) (r : Int) (w : World) (h : mark_place.f k a0 = some r) :
 Calls Try.prog 168 #[.int .i64 a0] w fun e w' => e = .returned (.int .i64 r) ∧ Drawn0 w w' := by
 have H : (mark_place.l0 k a0 0) = some r := h
 clear h
 have H' := Aside0.mk H
 clear H
 go_enter Try.func168, Try.ntmps168
 go_wp2
 go_loopg [3] k (fun kq v3 w' => ∃ (x3_1 : Int), v3 = .int .i64 x3_1 ∧ Aside0 (mark_place.l0 kq a0 x3_1 = some r) ∧ Aside0 (kq ≤ k) ∧ Drawn0 w w')
 case atStart => exact ⟨(0), (by first | rfl | (simp; done) | (simp [*]; done)), H', ⟨Nat.le_refl _⟩, by repeat (first | exact Drawn0.refl _ | apply Drawn0.step)⟩
 case round =>
  clear H'
  try clear c1
  obtain ⟨x3_1, rfl, HA, HK1, ⟨m1, rfl⟩⟩ := hrel
  cases gk with
  | zero => exact absurd HA.out (by simp [mark_place.l0])
  | succ k1 =>
   have H := HA.out
   clear HA
   simp only [mark_place.l0] at H
   by_cases c2 : x3_1 < 3
   · rw [if_pos c2] at H
     have c2b0 : decide (x3_1 < 3) = true := decide_eq_true c2
     clear c2
     by_cases c3 : 0 ≤ x3_1
     · rw [if_pos c3] at H
       have c3b0 := eq_true c3
       have c3b1 : decide (0 ≤ x3_1) = true := decide_eq_true c3
       clear c3
       obtain ⟨ji4, hji4⟩ : ∃ j_ : Int, (shl .i64 1 x3_1) = j_ := ⟨_, rfl⟩
       replace H : (if a0 = (ji4) then (some x3_1) else (mark_place.l0 k1 a0 (wrap64 (x3_1 + 1)))) = some r := by first | (rw [hji4] at H; exact H) | (simp only [hji4] at H ⊢; exact H)
       have hji4_ : (IntKind.i64.wrap (1 * 2 ^ min x3_1.toNat 64)) = ji4 := hji4
       have hji4z : x3_1 ≤ 64 → (IntKind.i64.wrap (1 * 2 ^ x3_1.toNat)) = ji4 := shl_small hji4
       have hji4u : (IntKind.i64.wrap (2 ^ min x3_1.toNat 64)) = ji4 := by have h_ := hji4_; rw [Int.one_mul] at h_; exact h_
       have hji4v : x3_1 ≤ 64 → (IntKind.i64.wrap (2 ^ x3_1.toNat)) = ji4 := fun hle_ => by have h_ := hji4z hle_; rw [Int.one_mul] at h_; exact h_
       have hji4y : (wrap64 (1 * 2 ^ min x3_1.toNat 64)) = ji4 := (i64_w _).symm.trans hji4_
       have hji4x : x3_1 ≤ 64 → (wrap64 (1 * 2 ^ x3_1.toNat)) = ji4 := fun h_ => (i64_w _).symm.trans (hji4z h_)
       by_cases c5 : a0 = (ji4)
       · rw [if_pos c5] at H
         have c5b0 : (a0 == (ji4)) = true := beq_iff_eq.mpr c5
         have c5b1 : (a0 != (ji4)) = false := bne_eq_false_iff_eq.mpr c5
         clear c5
         obtain rfl := Option.some.inj H
         go_wp2
         go_ret
         exact ⟨by first | rfl | (simp; done) | (simp only [← hji4] <;> (first | rfl | simp)) | (simp [*]; done), by repeat (first | exact Drawn0.refl _ | apply Drawn0.step)⟩
       · rw [if_neg c5] at H
         have c5b0 : (a0 == (ji4)) = false := beq_eq_false_iff_ne.mpr c5
         have c5b1 : (a0 != (ji4)) = true := bne_iff_ne.mpr c5
         have H' := Aside0.mk H
         clear H
         go_wp2
         go_roundg k1
         case measure => have := HK1.out; omega
         case rel => exact ⟨(wrap64 (x3_1 + 1)), (by first | rfl | (simp; done) | (simp [*]; done)), H', ⟨by have := HK1.out; omega⟩, by repeat (first | exact Drawn0.refl _ | apply Drawn0.step)⟩
     · rw [if_neg c3] at H
       exact absurd H (by simp)
   · rw [if_neg c2] at H
     have c2b0 : decide (x3_1 < 3) = false := decide_eq_false c2
     clear c2
     obtain rfl := Option.some.inj H
     go_wp2
     go_ret
     exact ⟨by first | rfl | (simp; done) | (simp [*]; done), by repeat (first | exact Drawn0.refl _ | apply Drawn0.step)⟩
def mark_may.f (k : Nat) (a0 : Int) (a1 : Int) : Option (Int) := (mark_place.f k a1).bind fun t103 => (if t103 = 3 then (some 1) else ((mark_Right.f a0).bind fun t104 => (if t104 = true then (some 0) else (some 4))))
theorem mark_may.mono : ∀ a0 a1 k, LeO (mark_may.f k a0 a1) (mark_may.f (k + 1) a0 a1) := by
 intro a0 a1 k
 unfold mark_may.f
 repeat' first
  | (with_reducible exact mark_place.mono _ _)
  | (with_reducible exact LeO.refl _)
  | (with_reducible exact LeO.none _)
  | (with_reducible refine LeO.ite ?_ ?_)
  | (with_reducible refine LeO.bind ?_ (fun _ => ?_))
  | exact mark_place.mono _ _
  | exact LeO.none _
  | refine LeO.ite ?_ ?_
  | refine LeO.bind ?_ (fun _ => ?_)
set_option maxHeartbeats 8000000 in
set_option maxRecDepth 100000 in
theorem mark_may.calls (k : Nat) (a0 : Int) (a1 : Int) (r : Int) (w : World) (h : mark_may.f k a0 a1 = some r) :
 Calls Try.prog 165 #[.int .i64 a0, .int .i64 a1] w fun e w' => e = .returned (.int .i64 r) ∧ Drawn0 w w' := by
 have H : ((mark_place.f k a1).bind fun t103 => (if t103 = 3 then (some 1) else ((mark_Right.f a0).bind fun t104 => (if t104 = true then (some 0) else (some 4))))) = some r := h
 clear h
 replace H := Option.bind_eq_some_iff.mp H
 obtain ⟨t103, A30, H⟩ := H
 replace H : (if t103 = 3 then (some 1) else ((mark_Right.f a0).bind fun t104 => (if t104 = true then (some 0) else (some 4)))) = some r := H
 have A3 := Aside0.mk A30
 clear A30
 by_cases c4 : t103 = 3
 · rw [if_pos c4] at H
   have c4b0 : (t103 == 3) = true := beq_iff_eq.mpr c4
   have c4b1 : (t103 != 3) = false := bne_eq_false_iff_eq.mpr c4
   clear c4
   obtain rfl := Option.some.inj H
   go_enter Try.func165, Try.ntmps165
   go_wp2_with (first | ((with_reducible refine gate_callee (f := 168) rfl ?_); refine goesL_ (some 7) rfl rfl Try.func168 (by kernel_rfl) rfl #[.int .i64 a1] rfl (by (try simp only [List.map_toArray, List.map_cons, List.map_nil]); first | done | rfl | (simp only [List.length_drop, List.length_take]; rfl)) ?_; (with_reducible refine (mark_place.calls k a1 t103 _ A3.out).mono ?_); rintro e w' ⟨rfl, ⟨nd, rfl⟩⟩; refine ⟨_, rfl, ?_⟩))
   go_ret
   exact ⟨by first | rfl | (simp; done) | (simp [*]; done), by repeat (first | exact Drawn0.refl _ | apply Drawn0.step)⟩
 · rw [if_neg c4] at H
   have c4b0 : (t103 == 3) = false := beq_eq_false_iff_ne.mpr c4
   have c4b1 : (t103 != 3) = true := bne_iff_ne.mpr c4
   replace H := Option.bind_eq_some_iff.mp H
   obtain ⟨t104, A50, H⟩ := H
   replace H : (if t104 = true then (some 0) else (some 4)) = some r := H
   have A5 := Aside0.mk A50
   clear A50
   by_cases c6 : t104 = true
   · subst c6
     have H1 : (some 0) = some r := by rw [if_pos rfl] at H; exact H
     clear H
     have H := H1
     clear H1
     obtain rfl := Option.some.inj H
     go_enter Try.func165, Try.ntmps165
     go_wp2_with (first | ((with_reducible refine gate_callee (f := 168) rfl ?_); refine goesL_ (some 7) rfl rfl Try.func168 (by kernel_rfl) rfl #[.int .i64 a1] rfl (by (try simp only [List.map_toArray, List.map_cons, List.map_nil]); first | done | rfl | (simp only [List.length_drop, List.length_take]; rfl)) ?_; (with_reducible refine (mark_place.calls k a1 t103 _ A3.out).mono ?_); rintro e w' ⟨rfl, ⟨nd, rfl⟩⟩; refine ⟨_, rfl, ?_⟩) | ((with_reducible refine gate_callee (f := 138) rfl ?_); refine goesL_ (some 11) rfl rfl Try.func138 (by kernel_rfl) rfl #[.int .i64 a0] rfl (by (try simp only [List.map_toArray, List.map_cons, List.map_nil]); first | done | rfl | (simp only [List.length_drop, List.length_take]; rfl)) ?_; (with_reducible refine (mark_Right.calls a0 true _ A5.out).mono ?_); rintro e w' ⟨rfl, ⟨nd, rfl⟩⟩; refine ⟨_, rfl, ?_⟩))
     go_ret
     exact ⟨by first | rfl | (simp; done) | (simp [*]; done), by repeat (first | exact Drawn0.refl _ | apply Drawn0.step)⟩
   · replace c6 := Bool.eq_false_iff.mpr c6
     subst c6
     have H1 : (some 4) = some r := by rw [if_neg (show ¬ (false = true) by decide)] at H; exact H
     clear H
     have H := H1
     clear H1
     obtain rfl := Option.some.inj H
     go_enter Try.func165, Try.ntmps165
     go_wp2_with (first | ((with_reducible refine gate_callee (f := 168) rfl ?_); refine goesL_ (some 7) rfl rfl Try.func168 (by kernel_rfl) rfl #[.int .i64 a1] rfl (by (try simp only [List.map_toArray, List.map_cons, List.map_nil]); first | done | rfl | (simp only [List.length_drop, List.length_take]; rfl)) ?_; (with_reducible refine (mark_place.calls k a1 t103 _ A3.out).mono ?_); rintro e w' ⟨rfl, ⟨nd, rfl⟩⟩; refine ⟨_, rfl, ?_⟩) | ((with_reducible refine gate_callee (f := 138) rfl ?_); refine goesL_ (some 11) rfl rfl Try.func138 (by kernel_rfl) rfl #[.int .i64 a0] rfl (by (try simp only [List.map_toArray, List.map_cons, List.map_nil]); first | done | rfl | (simp only [List.length_drop, List.length_take]; rfl)) ?_; (with_reducible refine (mark_Right.calls a0 false _ A5.out).mono ?_); rintro e w' ⟨rfl, ⟨nd, rfl⟩⟩; refine ⟨_, rfl, ?_⟩))
     go_ret
     exact ⟨by first | rfl | (simp; done) | (simp [*]; done), by repeat (first | exact Drawn0.refl _ | apply Drawn0.step)⟩
def mark_Has.f (k : Nat) (a0 : Int) (a1 : Int) : Option (Bool) := (mark_may.f k a0 a1).bind fun t105 => (if t105 = 0 then (some ((Go.bits .and .i64 a0 a1) != 0)) else (some false))
theorem mark_Has.mono : ∀ a0 a1 k, LeO (mark_Has.f k a0 a1) (mark_Has.f (k + 1) a0 a1) := by
 intro a0 a1 k
 unfold mark_Has.f
 repeat' first
  | (with_reducible exact mark_may.mono _ _ _)
  | (with_reducible exact LeO.refl _)
  | (with_reducible exact LeO.none _)
  | (with_reducible refine LeO.ite ?_ ?_)
  | (with_reducible refine LeO.bind ?_ (fun _ => ?_))
  | exact mark_may.mono _ _ _
  | exact LeO.none _
  | refine LeO.ite ?_ ?_
  | refine LeO.bind ?_ (fun _ => ?_)
set_option maxHeartbeats 8000000 in
set_option maxRecDepth 100000 in
theorem mark_Has.calls (k : Nat) (a0 : Int) (a1 : Int) (r : Bool) (w : World) (h : mark_Has.f k a0 a1 = some r) :
 Calls Try.prog 164 #[.int .i64 a0, .int .i64 a1] w fun e w' => e = .returned (.bool r) ∧ Drawn0 w w' := by
 have H : ((mark_may.f k a0 a1).bind fun t105 => (if t105 = 0 then (some ((Go.bits .and .i64 a0 a1) != 0)) else (some false))) = some r := h
 clear h
 replace H := Option.bind_eq_some_iff.mp H
 obtain ⟨t105, A30, H⟩ := H
 replace H : (if t105 = 0 then (some ((Go.bits .and .i64 a0 a1) != 0)) else (some false)) = some r := H
 have A3 := Aside0.mk A30
 clear A30
 by_cases c4 : t105 = 0
 · rw [if_pos c4] at H
   have c4b0 : (t105 == 0) = true := beq_iff_eq.mpr c4
   have c4b1 : (t105 != 0) = false := bne_eq_false_iff_eq.mpr c4
   clear c4
   obtain rfl := Option.some.inj H
   go_enter Try.func164, Try.ntmps164
   go_wp2_with (first | ((with_reducible refine gate_callee (f := 165) rfl ?_); refine goesL_ (some 7) rfl rfl Try.func165 (by kernel_rfl) rfl #[.int .i64 a0, .int .i64 a1] rfl (by (try simp only [List.map_toArray, List.map_cons, List.map_nil]); first | done | rfl | (simp only [List.length_drop, List.length_take]; rfl)) ?_; (with_reducible refine (mark_may.calls k a0 a1 t105 _ A3.out).mono ?_); rintro e w' ⟨rfl, ⟨nd, rfl⟩⟩; refine ⟨_, rfl, ?_⟩))
   go_ret
   exact ⟨by first | rfl | (simp; done) | (simp [*]; done), by repeat (first | exact Drawn0.refl _ | apply Drawn0.step)⟩
 · rw [if_neg c4] at H
   have c4b0 : (t105 == 0) = false := beq_eq_false_iff_ne.mpr c4
   have c4b1 : (t105 != 0) = true := bne_iff_ne.mpr c4
   obtain rfl := Option.some.inj H
   go_enter Try.func164, Try.ntmps164
   go_wp2_with (first | ((with_reducible refine gate_callee (f := 165) rfl ?_); refine goesL_ (some 7) rfl rfl Try.func165 (by kernel_rfl) rfl #[.int .i64 a0, .int .i64 a1] rfl (by (try simp only [List.map_toArray, List.map_cons, List.map_nil]); first | done | rfl | (simp only [List.length_drop, List.length_take]; rfl)) ?_; (with_reducible refine (mark_may.calls k a0 a1 t105 _ A3.out).mono ?_); rintro e w' ⟨rfl, ⟨nd, rfl⟩⟩; refine ⟨_, rfl, ?_⟩))
   go_ret
   exact ⟨by first | rfl | (simp; done) | (simp [*]; done), by repeat (first | exact Drawn0.refl _ | apply Drawn0.step)⟩
def mark_List.l0 : Nat → Int → List Int → Int → Option (List Int)
 | 0, _, _, _ => none
 | k + 1, x0, x3, x4 => if x4 < 3 then (if 0 ≤ x4 then ((mark_Has.f k x0 (shl .i64 1 x4)).bind fun t106 => (if t106 = true then (if x3.length < 17592186044416 then (mark_List.l0 k x0 (x3 ++ [shl .i64 1 x4]) (wrap64 (x4 + 1))) else (none)) else (mark_List.l0 k x0 x3 (wrap64 (x4 + 1))))) else (none)) else (some x3)
def mark_List.f (k : Nat) (a0 : Int) : Option (List Int) := mark_List.l0 k a0 ([] : List Int) 0
theorem mark_List.mono_l : ∀ k, (∀ y0 y1 y2, LeO (mark_List.l0 k y0 y1 y2) (mark_List.l0 (k + 1) y0 y1 y2))
 | 0 => fun _ _ _ r h => by simp [mark_List.l0] at h
 | k + 1 => by
  have ih0 := mark_List.mono_l k
  · intro y0 y1 y2
    unfold mark_List.l0
    repeat' first
    | (with_reducible exact ih0 _ _ _)
    | (with_reducible exact mark_Has.mono _ _ _)
    | (with_reducible exact LeO.refl _)
    | (with_reducible exact LeO.none _)
    | (with_reducible refine LeO.ite ?_ ?_)
    | (with_reducible refine LeO.bind ?_ (fun _ => ?_))
    | exact ih0 _ _ _
    | exact mark_Has.mono _ _ _
    | exact LeO.none _
    | refine LeO.ite ?_ ?_
    | refine LeO.bind ?_ (fun _ => ?_)
theorem mark_List.mono : ∀ a0 k, LeO (mark_List.f k a0) (mark_List.f (k + 1) a0) := by
 intro a0 k
 have ih0 := mark_List.mono_l k
 unfold mark_List.f
 repeat' first
  | (with_reducible exact ih0 _ _ _)
  | (with_reducible exact mark_Has.mono _ _ _)
  | (with_reducible exact LeO.refl _)
  | (with_reducible exact LeO.none _)
  | (with_reducible refine LeO.ite ?_ ?_)
  | (with_reducible refine LeO.bind ?_ (fun _ => ?_))
  | exact ih0 _ _ _
  | exact mark_Has.mono _ _ _
  | exact LeO.none _
  | refine LeO.ite ?_ ?_
  | refine LeO.bind ?_ (fun _ => ?_)
set_option maxHeartbeats 8000000 in
set_option maxRecDepth 100000 in
theorem mark_List.calls (k : Nat) (a0 : Int) (r : List Int) (w : World) (h : mark_List.f k a0 = some r) :
 Calls Try.prog 145 #[.int .i64 a0] w fun e w' => ∃ v0_ : Value, e = .returned (v0_) ∧ Kd.R (Kd.int .i64) 3 w' w.heap.size (fun _ => True) v0_ r ∧ Below w.heap.size w w' := by
 have HB := Aside0.mk (Below.refl w.heap.size w)
 have H : (mark_List.l0 k a0 ([] : List Int) 0) = some r := h
 clear h
 have H' := Aside0.mk H
 clear H
 go_enter Try.func145, Try.ntmps145
 go_wp2
 go_loopg [3, 4] k (fun kq v3 v4 w' => ∃ (x3_1 : List Int) (x4_1 : Int), v4 = .int .i64 x4_1 ∧ Aside0 (mark_List.l0 kq a0 x3_1 x4_1 = some r) ∧ Aside0 (kq ≤ k) ∧ Aside0 (Kd.R (Kd.int .i64) 3 w' w.heap.size (fun _ => True) v3 x3_1) ∧ Aside0 (Below w.heap.size w w'))
 case atStart => exact ⟨(([] : List Int)), (0), (by first | rfl | (simp; done) | (simp [*]; done)), H', ⟨Nat.le_refl _⟩, ⟨by first | exact Kd.R_nil _ _ _ _ _ | exact Kd.N_nil _ _ _ _ _ | exact Kd.V_nil _ _ _ _ _ | exact Kd.Q_nil _ _ _ _ _ | exact Kd.S_nil _ _ _ _ _⟩, ⟨by repeat (first | (with_reducible first | exact HB.out | apply below_alloc | apply pw_below_drewN | apply below_drew1) | exact HB.out)⟩⟩
 case round =>
  clear H'
  try clear c1
  obtain ⟨x3_1, x4_1, rfl, HA, HK1, HO_3, HB⟩ := hrel
  cases gk with
  | zero => exact absurd HA.out (by simp [mark_List.l0])
  | succ k1 =>
   have H := HA.out
   clear HA
   simp only [mark_List.l0] at H
   by_cases c2 : x4_1 < 3
   · rw [if_pos c2] at H
     have c2b0 : decide (x4_1 < 3) = true := decide_eq_true c2
     clear c2
     by_cases c3 : 0 ≤ x4_1
     · rw [if_pos c3] at H
       have c3b0 := eq_true c3
       have c3b1 : decide (0 ≤ x4_1) = true := decide_eq_true c3
       clear c3
       obtain ⟨ji4, hji4⟩ : ∃ j_ : Int, (shl .i64 1 x4_1) = j_ := ⟨_, rfl⟩
       replace H : ((mark_Has.f k1 a0 (ji4)).bind fun t106 => (if t106 = true then (if x3_1.length < 17592186044416 then (mark_List.l0 k1 a0 (x3_1 ++ [ji4]) (wrap64 (x4_1 + 1))) else (none)) else (mark_List.l0 k1 a0 x3_1 (wrap64 (x4_1 + 1))))) = some r := by first | (rw [hji4] at H; exact H) | (simp only [hji4] at H ⊢; exact H)
       have hji4_ : (IntKind.i64.wrap (1 * 2 ^ min x4_1.toNat 64)) = ji4 := hji4
       have hji4z : x4_1 ≤ 64 → (IntKind.i64.wrap (1 * 2 ^ x4_1.toNat)) = ji4 := shl_small hji4
       have hji4u : (IntKind.i64.wrap (2 ^ min x4_1.toNat 64)) = ji4 := by have h_ := hji4_; rw [Int.one_mul] at h_; exact h_
       have hji4v : x4_1 ≤ 64 → (IntKind.i64.wrap (2 ^ x4_1.toNat)) = ji4 := fun hle_ => by have h_ := hji4z hle_; rw [Int.one_mul] at h_; exact h_
       have hji4y : (wrap64 (1 * 2 ^ min x4_1.toNat 64)) = ji4 := (i64_w _).symm.trans hji4_
       have hji4x : x4_1 ≤ 64 → (wrap64 (1 * 2 ^ x4_1.toNat)) = ji4 := fun h_ => (i64_w _).symm.trans (hji4z h_)
       replace H := Option.bind_eq_some_iff.mp H
       obtain ⟨t106, A50, H⟩ := H
       replace H : (if t106 = true then (if x3_1.length < 17592186044416 then (mark_List.l0 k1 a0 (x3_1 ++ [ji4]) (wrap64 (x4_1 + 1))) else (none)) else (mark_List.l0 k1 a0 x3_1 (wrap64 (x4_1 + 1)))) = some r := H
       have A5 := Aside0.mk A50
       clear A50
       by_cases c6 : t106 = true
       · subst c6
         have H1 : (if x3_1.length < 17592186044416 then (mark_List.l0 k1 a0 (x3_1 ++ [ji4]) (wrap64 (x4_1 + 1))) else (none)) = some r := by rw [if_pos rfl] at H; exact H
         clear H
         have H := H1
         clear H1
         have c7b0 := eq_true (of_decide_eq_true (by first | (with_reducible assumption) | assumption) : 0 ≤ x4_1)
         by_cases c9 : x3_1.length < 17592186044416
         · rw [if_pos c9] at H
           have LMc9 := Aside0.mk c9
           clear c9
           obtain ⟨y107, hy107⟩ : ∃ y_ : List Int, y_ = (x3_1 ++ [ji4]) := ⟨_, rfl⟩
           replace H : (mark_List.l0 k1 a0 y107 (wrap64 (x4_1 + 1))) = some r := by first | (rw [hy107]; with_reducible exact H) | (have H2_ := (Option.bind_some _ _).symm.trans H; rw [hy107]; with_reducible exact H2_) | (have H2_ := (Option.bind_some _ _).symm.trans H; with_reducible exact H2_) | with_reducible exact H | (rw [hy107]; exact H) | exact H
           have Ny107 := Aside0.mk hy107
           clear hy107
           have H' := Aside0.mk H
           clear H
           go_wp2_with (first | ((with_reducible refine gate_callee (f := 164) rfl ?_); refine goesL_ (some 12) rfl rfl Try.func164 (by kernel_rfl) rfl #[.int .i64 a0, .int .i64 ji4] rfl (by (try simp only [List.map_toArray, List.map_cons, List.map_nil]); first | done | (simp only [hji4]; rfl) | rfl | (simp only [List.length_drop, List.length_take]; rfl)) ?_; (with_reducible refine (mark_Has.calls k1 a0 ji4 true _ A5.out).mono ?_); rintro e w' ⟨rfl, ⟨nd, rfl⟩⟩; refine ⟨_, rfl, ?_⟩) | ((with_reducible refine gate_builtin (b := .append) (xs := #[.tmp 13, .tmp 16]) rfl ?_); at_builtin; refine Kd.R_append (Kd.int .i64) (w0 := w) w.heap.size rfl (.tmp 13) (.tmp 16) 42 3 (.int .i64 0) 8 rfl Try.underlying42 info3 rfl (by decide) (by omega) u3 x3_1 ji4 [.int .i64 ji4] (fun _ => True) (fun _ => False) rfl rfl ?aP (fun _ hk => hk.elim) ?aF ?aO ?aB ?aS ?aL ?_; (case aP => exact rfl); (case aB => exact (by repeat (first | (with_reducible first | exact HB.out | apply below_alloc | apply pw_below_drewN | apply below_drew1) | exact HB.out))); (case aF => exact (fun _ _ => trivial)); (case aO => exact (by (with_reducible repeat (first | apply Kd.R_alloc | apply Kd.R_drewN | apply Kd.R_drew)); exact HO_3.out)); (case aS => exact (below_size (by repeat (first | (with_reducible first | exact HB.out | apply below_alloc | apply pw_below_drewN | apply below_drew1) | exact HB.out)))); (case aL => have := LMc9.out; omega); intro v108 w10 ho hb hg hat; rw [← Ny107.out] at ho; have n0_ := Aside0.mk (hb); have n1_ := Aside0.mk (ho); clear HB; clear HO_3; have HB := n0_; have HO109 := n1_; clear n0_ n1_; clear ho hb hg hat))
           go_roundg k1
           case measure => have := HK1.out; omega
           case rel => exact ⟨(y107), (wrap64 (x4_1 + 1)), (by first | rfl | (simp; done) | (simp [*]; done)), H', ⟨by have := HK1.out; omega⟩, ⟨by (with_reducible repeat (first | apply Kd.R_alloc | apply Kd.R_drewN | apply Kd.R_drew)); exact HO109.out⟩, ⟨by repeat (first | (with_reducible first | exact HB.out | apply below_alloc | apply pw_below_drewN | apply below_drew1) | exact HB.out)⟩⟩
         · rw [if_neg c9] at H
           exact absurd H (by simp)
       · replace c6 := Bool.eq_false_iff.mpr c6
         subst c6
         have H1 : (mark_List.l0 k1 a0 x3_1 (wrap64 (x4_1 + 1))) = some r := by rw [if_neg (show ¬ (false = true) by decide)] at H; exact H
         clear H
         have H := H1
         clear H1
         have H' := Aside0.mk H
         clear H
         go_wp2_with (first | ((with_reducible refine gate_callee (f := 164) rfl ?_); refine goesL_ (some 12) rfl rfl Try.func164 (by kernel_rfl) rfl #[.int .i64 a0, .int .i64 ji4] rfl (by (try simp only [List.map_toArray, List.map_cons, List.map_nil]); first | done | (simp only [hji4]; rfl) | rfl | (simp only [List.length_drop, List.length_take]; rfl)) ?_; (with_reducible refine (mark_Has.calls k1 a0 ji4 false _ A5.out).mono ?_); rintro e w' ⟨rfl, ⟨nd, rfl⟩⟩; refine ⟨_, rfl, ?_⟩))
         go_roundg k1
         case measure => have := HK1.out; omega
         case rel => exact ⟨(x3_1), (wrap64 (x4_1 + 1)), (by first | rfl | (simp; done) | (simp [*]; done)), H', ⟨by have := HK1.out; omega⟩, ⟨by (with_reducible repeat (first | apply Kd.R_alloc | apply Kd.R_drewN | apply Kd.R_drew)); exact HO_3.out⟩, ⟨by repeat (first | (with_reducible first | exact HB.out | apply below_alloc | apply pw_below_drewN | apply below_drew1) | exact HB.out)⟩⟩
     · rw [if_neg c3] at H
       exact absurd H (by simp)
   · rw [if_neg c2] at H
     have c2b0 : decide (x4_1 < 3) = false := decide_eq_false c2
     clear c2
     obtain rfl := Option.some.inj H
     go_wp2
     go_ret
     exact ⟨_, by first | rfl | (simp [errW_none, errW_some] <;> rfl) | (simp [*, errW_none, errW_some] <;> rfl), by (with_reducible repeat (first | apply Kd.R_alloc | apply Kd.R_drewN | apply Kd.R_drew)); exact HO_3.out, by repeat (first | (with_reducible first | exact HB.out | apply below_alloc | apply pw_below_drewN | apply below_drew1) | exact HB.out)⟩
end Go.Proofs.Ytmbnjgnmblgjoaa.K
end
