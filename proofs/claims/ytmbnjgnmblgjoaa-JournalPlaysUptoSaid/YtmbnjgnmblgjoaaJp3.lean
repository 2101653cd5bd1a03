/- JournalPlays (Upto): any acts (Append, Sync, Crash, Cut) on a journal over a disk that held any bytes tell, act by act, what the document's journal tells. Conditions: the statement's own, no others. -/
-- Laid together by a program of this session (wip/tools/shake.py). Not trusted: Lean checks it.
import Derived.Test.YtmbnjgnmblgjoaaJp2
section
namespace Go.Proofs.Ytmbnjgnmblgjoaa.Man
open Go.RowKit Go.Proofs.YtmbnjgnmblgjoaaW.PrintWords Go.Proofs.YtmbnjgnmblgjoaaW.PrintLast Go.Proofs.YtmbnjgnmblgjoaaW.PrintMore
set_option linter.unusedVariables false
set_option linter.unusedSimpArgs false
set_option maxRecDepth 100000
abbrev entV (x : K.S26) (A : Option Addr) (c : Nat) : Value := .agg #[.int .i64 x.f0, .int .i64 x.f1, .int .i64 x.f2.f0, .int .i64 x.f2.f1, .int .i64 x.f2.f2, .int .i64 x.f2.f3, .int .i64 x.f2.f4, .int .i64 x.f2.f5, .slice A x.f2.f6.length c, .int .i64 x.f2.f7]
theorem entry_is (x : K.S26) (A : Option Addr) (c : Nat) (w : World) (hr : Kd.C K.k111 w A x.f2.f6.length x.f2.f6) (hc : x.f2.f6.length ≤ c) :
 Calls Try.prog 87 #[entV x A c] w fun e w' => e = .returned (.int .i64 (entryE x)) ∧ Below w.heap.size w w' :=
 K.codec_entry.calls 2060 _ _ _ _ _ _ _ _ A c _ _ _ w hr hc (entry_f x)
theorem right_tok {x : K.S111} (h : rightB x = true) : TokOk x := by
 unfold rightB at h
 rw [decide_eq_true_eq] at h
 unfold TokOk
 omega
theorem docE_zero {l : List K.S111} (h : docE l = 0) : l.length ≤ 2048 ∧ ∀ x ∈ l, rightB x = true := by
 unfold docE at h
 split at h
 · cases h
 · split at h
   · rename_i h1 h2
     exact ⟨by omega, List.all_eq_true.1 h2⟩
   · cases h
theorem oneMark_of {m : Int} (h : oneMark m = true) : m = 1 ∨ m = 2 ∨ m = 4 := by
 unfold oneMark at h
 simpa using h
theorem entryE_zero {x : K.S26} (h : entryE x = 0) : EntOk x := by
 unfold entryE at h
 split at h
 · cases h
 rename_i h1
 unfold stepE at h
 split at h
 · cases h
 rename_i h2
 split at h
 case isFalse => cases h
 rename_i h3
 unfold stepOk at h3
 simp only [Bool.and_eq_true, decide_eq_true_eq] at h3
 obtain ⟨⟨a1, a2, a3⟩, hk, ha⟩ := h3
 rw [List.all_eq_true] at ha
 have hkk : (x.f2.f0 = 1 ∧ x.f2.f1 ≤ x.f2.f3 ∧ x.f2.f3 < x.f2.f4 ∧ x.f2.f4 ≤ x.f2.f2 ∧ 0 ≤ x.f2.f5 ∧ x.f2.f5 ≤ (x.f2.f6.length : Int) ∧ x.f2.f7 = 0) ∨ (x.f2.f0 = 0 ∧ x.f2.f7 = 0 ∧ x.f2.f3 = 0 ∧ x.f2.f4 = 0 ∧ x.f2.f5 = 0) ∨ ((x.f2.f0 = 2 ∨ x.f2.f0 = 3) ∧ (x.f2.f7 = 1 ∨ x.f2.f7 = 2 ∨ x.f2.f7 = 4) ∧ x.f2.f3 = 0 ∧ x.f2.f4 = 0 ∧ x.f2.f5 = 0) := by
  unfold kindOk gaps0 at hk
  split at hk
  · rename_i q
    rw [decide_eq_true_eq] at hk
    exact .inl ⟨q, hk⟩
  · split at hk
    · rename_i q
      simp only [Bool.and_eq_true, beq_iff_eq] at hk
      exact .inr (.inl ⟨q, hk.1, hk.2.1, hk.2.2.1, hk.2.2.2⟩)
    · split at hk
      · rename_i q
        simp only [Bool.and_eq_true, beq_iff_eq, decide_eq_true_eq] at hk
        exact .inr (.inr ⟨q, oneMark_of hk.2.1, hk.2.2.2.1, hk.2.2.2.2.1, hk.2.2.2.2.2⟩)
      · cases hk
 exact ⟨by omega, by omega, by omega, by omega, by omega, by omega, by omega, by omega, by omega, by omega, fun t ht => right_tok (ha t ht)⟩
def putDocF (l : List K.S111) : List Int × Int := (if docE l = 0 then docB l else [], docE l)
def putEntryF (x : K.S26) : List Int × Int := (if entryE x = 0 then entryB x else [], entryE x)
def EntAt (w : World) (P : Nat) (x : K.S26) (A : Option Addr) (c : Nat) : Prop := w.heap[P]? = some (.cells #[.int .i64 x.f0, .int .i64 x.f1, .int .i64 x.f2.f0, .int .i64 x.f2.f1, .int .i64 x.f2.f2, .int .i64 x.f2.f3, .int .i64 x.f2.f4, .int .i64 x.f2.f5, .slice A x.f2.f6.length c, .int .i64 x.f2.f7] 26 (0, 0))
theorem EntAt.lt {w : World} {P c : Nat} {x : K.S26} {A : Option Addr} (h : EntAt w P x A c) : P < w.heap.size := (Array.getElem?_eq_some_iff.1 h).1
theorem EntAt.c {w : World} {P c : Nat} {x : K.S26} {A : Option Addr} (h : EntAt w P x A c) : w.cell? ⟨P, 0, none⟩ = some (.int .i64 x.f0) ∧ w.cell? ⟨P, 1, none⟩ = some (.int .i64 x.f1) ∧ w.cell? ⟨P, 2, none⟩ = some (.int .i64 x.f2.f0) ∧ w.cell? ⟨P, 3, none⟩ = some (.int .i64 x.f2.f1) ∧ w.cell? ⟨P, 4, none⟩ = some (.int .i64 x.f2.f2) ∧
 w.cell? ⟨P, 5, none⟩ = some (.int .i64 x.f2.f3) ∧ w.cell? ⟨P, 6, none⟩ = some (.int .i64 x.f2.f4) ∧ w.cell? ⟨P, 7, none⟩ = some (.int .i64 x.f2.f5) ∧ w.cell? ⟨P, 8, none⟩ = some (.slice A x.f2.f6.length c) ∧ w.cell? ⟨P, 9, none⟩ = some (.int .i64 x.f2.f7) := by
 simp [World.cell?, show w.heap[P]? = _ from h]
set_option maxHeartbeats 8000000 in
theorem putEntry_is (x : K.S26) (A : Option Addr) (c : Nat) (w : World) (hr : Kd.C K.k111 w A x.f2.f6.length x.f2.f6) (hc : x.f2.f6.length ≤ c) :
 Calls Try.prog 19 #[entV x A c] w fun e w' => ∃ v, e = .returned (.tuple #[v, .int .i64 (entryE x)]) ∧ BR w' w.heap.size v (putEntryF x).1 ∧ Below w.heap.size w w' := by
 unfold putEntryF
 simp only
 obtain ⟨w1, hw1⟩ : ∃ w1, w1 = w.alloc (.cells #[.int .i64 x.f0, .int .i64 x.f1, .int .i64 x.f2.f0, .int .i64 x.f2.f1, .int .i64 x.f2.f2, .int .i64 x.f2.f3, .int .i64 x.f2.f4, .int .i64 x.f2.f5, .slice A x.f2.f6.length c, .int .i64 x.f2.f7] 26) := ⟨_, rfl⟩
 have hb1 : Below w.heap.size w w1 := by rw [hw1]; exact (Below.refl _ _).alloc (Nat.le_refl _) _
 have hz1 : w1.heap.size = w.heap.size + 1 := by rw [hw1]; exact World.size_alloc _ _
 have hE1 : EntAt w1 w.heap.size x A c := by rw [hw1]; exact World.alloc_heap_new w _
 have hD := entry_is x A c w1 (Kd.C_below hr hb1) hc
 rw [hw1] at hD
 have hz := @entryE_zero x
 obtain ⟨er, her⟩ : ∃ er, entryE x = er := ⟨_, rfl⟩
 rw [her] at hD hz ⊢
 have HD := Lib.hid hD
 have HC := Lib.hid hr
 have HB1 := Lib.hid hb1
 have HE1 := Lib.hid hE1
 have HZ := Lib.hid hz1
 have HW1 : Hid (w1 = w.alloc (.cells #[.int .i64 x.f0, .int .i64 x.f1, .int .i64 x.f2.f0, .int .i64 x.f2.f1, .int .i64 x.f2.f2, .int .i64 x.f2.f3, .int .i64 x.f2.f4, .int .i64 x.f2.f5, .slice A x.f2.f6.length c, .int .i64 x.f2.f7] 26)) := Lib.hid hw1
 clear hr her hD hb1 hz1 hE1 hw1
 by_cases h0 : er = 0
 · subst h0
   have HOK := Lib.hid (hz rfl)
   clear hz
   rw [if_pos rfl]
   go_enter Try.func19, Try.ntmps19
   go_upto_region 4 with (go_at_call 87; refine HD.out.mono ?_; rintro e w2 ⟨rfl, hb⟩; rw [← HW1.out] at hb; have HX2 := Lib.hid hb; clear hb)
   have hbe : Below w1.heap.size w1 (w2.alloc (.cells #[.slice none 0 0] 129)) := HX2.out.alloc HX2.out.size _
   have hW : WrS (w2.alloc (.cells #[.slice none 0 0] 129)) w1.heap.size w2.heap.size [] := ⟨_, World.alloc_heap_new w2 _, Kd.R_nil _ _ _ _ _⟩
   have hE3 : EntAt (w2.alloc (.cells #[.slice none 0 0] 129)) w.heap.size x A c := (hbe.block _ HE1.out.lt).trans HE1.out
   obtain ⟨c0, c1, c2, c3, c4, c5, c6, c7, c8, c9⟩ := hE3.c
   have HE := Lib.hid (HB1.out.trans (hbe.mono HB1.out.size))
   have HEE := Lib.hid hbe
   have HW := Lib.hid hW
   clear hbe hW hE3
   go_wp2_with (go_at_call 88; refine (wentry_is HW.out HX2.out.size HEE.out.size x A c HC.out HE.out HB1.out.size HOK.out (by simp)).mono ?_; rintro e w3 ⟨rfl, hw, hg⟩; rw [List.nil_append] at hw; have HB := Lib.hid (below_of_grown HE.out hg (Nat.le_trans HB1.out.size HX2.out.size)); obtain ⟨v1, hk, hv⟩ := hw.ex; have HR := Lib.hid (Kd.R_lower hv HB1.out.size); have g0 := hk.c0; clear hw hg hk hv)
   go_ret2
   exact ⟨v1, rfl, HR.out, HB.out⟩
 · rw [if_neg h0]
   have hb : (er != 0) = true := by simpa using h0
   clear h0 hz
   go_enter Try.func19, Try.ntmps19
   go_wp2_with (go_at_call 87; refine HD.out.mono ?_; rintro e w2 ⟨rfl, hb⟩; rw [← HW1.out] at hb; have HB2 := Lib.hid (HB1.out.trans (hb.mono HB1.out.size)); clear hb)
   go_ret2
   exact ⟨_, rfl, Kd.R_nil _ _ _ _ _, HB2.out⟩
end Go.Proofs.Ytmbnjgnmblgjoaa.Man
end
section
namespace Go.Proofs.Ytmbnjgnmblgjoaa.Man
open Go.RowKit Go.Proofs.YtmbnjgnmblgjoaaW.PrintWords Go.Proofs.YtmbnjgnmblgjoaaW.PrintLast Go.Proofs.YtmbnjgnmblgjoaaW.PrintMore
set_option linter.unusedVariables false
set_option linter.unusedSimpArgs false
set_option maxRecDepth 100000
attribute [local go_sem] max2_int min2_int max_two min_two max_three min_three
structure MsgL where
 k : Int
 who : Int
 ver : Int
 l : List K.S26
def firstBad : List K.S26 → Int
 | [] => 0
 | x :: l => if entryE x = 0 then firstBad l else entryE x
def msgBad (m : MsgL) : Prop := m.k < 0 ∨ m.who < 0 ∨ m.ver < 0 ∨ 2 < m.k ∨ 4 ≤ m.who ∨ 1024 < m.ver
instance (m : MsgL) : Decidable (msgBad m) := by unfold msgBad; infer_instance
def msgE (m : MsgL) : Int := if msgBad m then 1 else if 1024 < m.l.length then 2 else firstBad m.l
abbrev msgV (m : MsgL) (A : Option Addr) (c : Nat) : Value := .agg #[.int .i64 m.k, .int .i64 m.who, .int .i64 m.ver, .slice A m.l.length c]
abbrev msgO (m : MsgL) (A : Option Addr) (c : Nat) : Obj := .cells #[.int .i64 m.k, .int .i64 m.who, .int .i64 m.ver, .slice A m.l.length c] 71
abbrev entO (x : K.S26) (A : Option Addr) (c : Nat) : Obj := .cells #[.int .i64 x.f0, .int .i64 x.f1, .int .i64 x.f2.f0, .int .i64 x.f2.f1, .int .i64 x.f2.f2, .int .i64 x.f2.f3, .int .i64 x.f2.f4, .int .i64 x.f2.f5, .slice A x.f2.f6.length c, .int .i64 x.f2.f7] 26
def msgB (m : MsgL) : List Int := vbs [m.k, m.who, m.ver, (m.l.length : Int)] ++ m.l.flatMap entryB
def putMsgF (m : MsgL) : List Int × Int := (if msgE m = 0 then msgB m else [], msgE m)
def MsgAt (w : World) (P : Nat) (k who ver : Int) (A : Option Addr) (n c : Nat) : Prop := w.heap[P]? = some (.cells #[.int .i64 k, .int .i64 who, .int .i64 ver, .slice A n c] 71 (0, 0))
theorem MsgAt.c {w : World} {P n c : Nat} {k who ver : Int} {A : Option Addr} (h : MsgAt w P k who ver A n c) : w.cell? ⟨P, 0, none⟩ = some (.int .i64 k) ∧ w.cell? ⟨P, 1, none⟩ = some (.int .i64 who) ∧ w.cell? ⟨P, 2, none⟩ = some (.int .i64 ver) ∧ w.cell? ⟨P, 3, none⟩ = some (.slice A n c) := by
 simp [World.cell?, show w.heap[P]? = _ from h]
end Go.Proofs.Ytmbnjgnmblgjoaa.Man
end
section
namespace Go.Proofs.Ytmbnjgnmblgjoaa.Man
open Go.RowKit Go.Proofs.YtmbnjgnmblgjoaaW.PrintWords Go.Proofs.YtmbnjgnmblgjoaaW.PrintLast Go.Proofs.YtmbnjgnmblgjoaaW.PrintMore
set_option linter.unusedVariables false
set_option linter.unusedSimpArgs false
abbrev Rd (α : Type) := Except Int (α × List Int)
def bnd {α β : Type} (r : Rd α) (f : α → List Int → Rd β) : Rd β := match r with | .error e => .error e | .ok (a, l) => f a l
theorem bnd_ok {α β : Type} (a : α) (l : List Int) (f : α → List Int → Rd β) : bnd (.ok (a, l)) f = f a l := rfl
theorem bnd_err {α β : Type} (e : Int) (f : α → List Int → Rd β) : bnd (.error e : Rd α) f = .error e := rfl
theorem bnd_inv {α β : Type} {r : Rd α} {f : α → List Int → Rd β} {x : β × List Int} (h : bnd r f = .ok x) : ∃ a l, r = .ok (a, l) ∧ f a l = .ok x := by
 match r, h with
 | .ok (a, l), h => exact ⟨a, l, rfl, h⟩
def most : Int := 2147483647
def rnum (top : Int) (l : List Int) : Rd Int :=
 if (getL l 0 0).2.2 ≠ 0 then .error (getL l 0 0).2.2 else if top < ((getL l 0 0).1 : Int) then .error 4 else .ok (((getL l 0 0).1 : Int), l.drop (getL l 0 0).2.1)
theorem rnum_put (n : Nat) (top : Int) (r : List Int) (h : (n : Int) ≤ top) (h2 : n < 18446744073709551616) : rnum top (vb n ++ r) = .ok ((n : Int), r) := by
 have := getL_vb n 0 0 r (.inl rfl) (by omega) (by omega)
 have e : getL (vb n ++ r) 0 0 = (n, (vb n).length, 0) := by rw [this]; simp
 unfold rnum
 rw [e]
 simp only
 rw [if_neg (by simp), if_neg (by omega), List.drop_left]
theorem rnum_put' (x : Int) (top : Int) (r : List Int) (h0 : 0 ≤ x) (h : x ≤ top) (h2 : x < 18446744073709551616) : rnum top (vb x.toNat ++ r) = .ok (x, r) := by
 have := rnum_put x.toNat top r (by omega) (by omega)
 rwa [show ((x.toNat : Nat) : Int) = x by omega] at this
theorem rnum_inv {top : Int} {l : List Int} {n : Int} {r : List Int} (hB : areBytesN l = true) (h : rnum top l = .ok (n, r)) : 0 ≤ n ∧ n ≤ top ∧ l = vb n.toNat ++ r ∧ areBytesN r = true := by
 unfold rnum at h
 split at h
 · cases h
 rename_i h0
 split at h
 · cases h
 rename_i h1
 obtain ⟨⟨v, off, er⟩, hg⟩ : ∃ g, getL l 0 0 = g := ⟨_, rfl⟩
 rw [hg] at h h0 h1
 simp only at h h0 h1
 obtain rfl : er = 0 := by omega
 obtain ⟨v1, v2, v3, v4, v5⟩ := vb_of2 v off l hB hg
 simp only [Except.ok.injEq, Prod.mk.injEq] at h
 obtain ⟨rfl, rfl⟩ := h
 exact ⟨by omega, by omega, by rw [Int.toNat_natCast]; exact v4, areBytesN_drop hB _⟩
def rtok (l : List Int) : Rd K.S111 :=
 bnd (rnum most l) fun k l => if k % 4 = 0 then bnd (rnum most l) fun m l => .ok (⟨0, 0, k / 4, m⟩, l)
  else if k % 4 = 1 ∨ k % 4 = 3 then bnd (rnum most l) fun t l => .ok (⟨k % 4, t, k / 4, 0⟩, l) else .ok (⟨2, 0, k / 4, 0⟩, l)
def rtoks : Nat → List Int → Rd (List K.S111)
 | 0, l => .ok ([], l)
 | n + 1, l => bnd (rtok l) fun x l => bnd (rtoks n l) fun xs l => .ok (x :: xs, l)
def rdoc (l : List Int) : Rd (List K.S111) := bnd (rnum 2048 l) fun n l => rtoks n.toNat l
theorem rtok_put (x : K.S111) (r : List Int) (h : rightB x = true) : rtok (tokB x ++ r) = .ok (x, r) := by
 obtain ⟨k, t, n, m⟩ := x
 unfold rightB at h
 rw [decide_eq_true_eq] at h
 simp only at h
 unfold tokB rtok most
 simp only
 rcases h with ⟨rfl, rfl, h1, h2, h3, h4, h5⟩ | ⟨rfl, rfl, rfl, rfl⟩ | ⟨hk, h1, h2, h3, h4, rfl⟩
 · rw [if_pos rfl, List.append_assoc, rnum_put' _ _ _ (by omega) (by omega) (by omega), bnd_ok, if_pos (by omega), rnum_put' _ _ _ (by omega) (by omega) (by omega), bnd_ok]
   congr 4
   omega
 · rw [if_neg (by decide), if_neg (by decide), List.append_nil, rnum_put' _ _ _ (by omega) (by omega) (by omega), bnd_ok, if_neg (by omega), if_neg (by omega)]
   rfl
 · have e4 : (k + 4 * n) % 4 = k := by omega
   have e5 : (k + 4 * n) / 4 = n := by omega
   rw [if_neg (by omega), if_pos hk, List.append_assoc, rnum_put' _ _ _ (by omega) (by omega) (by omega), bnd_ok, if_neg (by omega), if_pos (by omega), rnum_put' _ _ _ (by omega) (by omega) (by omega), bnd_ok, e4, e5]
theorem rtok_inv {l : List Int} {x : K.S111} {r : List Int} (hB : areBytesN l = true) (h : rtok l = .ok (x, r)) : l = tokB x ++ r ∧ TokOk x ∧ areBytesN r = true := by
 unfold rtok most at h
 obtain ⟨k, l1, h1, h⟩ := bnd_inv h
 obtain ⟨k0, k1, e1, hB1⟩ := rnum_inv hB h1
 split at h
 · rename_i q
   obtain ⟨m, l2, h2, h⟩ := bnd_inv h
   obtain ⟨m0, m1, e2, hB2⟩ := rnum_inv hB1 h2
   simp only [Except.ok.injEq, Prod.mk.injEq] at h
   obtain ⟨rfl, rfl⟩ := h
   refine ⟨?_, ⟨by simp, by simp, by simp, by simp, by simp only; omega, by simp only; omega, by simp only; omega, by simp only; omega⟩, hB2⟩
   unfold tokB
   simp only
   rw [if_pos trivial, List.append_assoc, ← e2, show (0 + 4 * (k / 4)).toNat = k.toNat by omega]
   exact e1
 · split at h
   · rename_i q0 q
     obtain ⟨t, l2, h2, h⟩ := bnd_inv h
     obtain ⟨m0, m1, e2, hB2⟩ := rnum_inv hB1 h2
     simp only [Except.ok.injEq, Prod.mk.injEq] at h
     obtain ⟨rfl, rfl⟩ := h
     refine ⟨?_, ⟨by simp only; omega, by simp only; omega, by simp only; omega, by simp only; omega, by simp only; omega, by simp only; omega, by simp, by simp⟩, hB2⟩
     unfold tokB
     simp only
     rw [if_neg q0, if_pos q, List.append_assoc, ← e2, show (k % 4 + 4 * (k / 4)).toNat = k.toNat by omega]
     exact e1
   · rename_i q0 q
     simp only [Except.ok.injEq, Prod.mk.injEq] at h
     obtain ⟨rfl, rfl⟩ := h
     refine ⟨?_, ⟨by simp, by simp, by simp, by simp, by simp only; omega, by simp only; omega, by simp, by simp⟩, hB1⟩
     unfold tokB
     simp only
     rw [if_neg (by decide), if_neg (by decide), List.append_nil, show (2 + 4 * (k / 4)).toNat = k.toNat by omega]
     exact e1
theorem rtoks_put : ∀ (xs : List K.S111) (r : List Int), (∀ x ∈ xs, rightB x = true) → rtoks xs.length (xs.flatMap tokB ++ r) = .ok (xs, r)
 | [], r, _ => rfl
 | x :: xs, r, h => by
  rw [List.flatMap_cons, List.length_cons, rtoks, List.append_assoc, rtok_put x _ (h x List.mem_cons_self), bnd_ok, rtoks_put xs r (fun y hy => h y (List.mem_cons_of_mem _ hy)), bnd_ok]
theorem rtoks_inv : ∀ (n : Nat) {l : List Int} {xs : List K.S111} {r : List Int}, areBytesN l = true → rtoks n l = .ok (xs, r) → l = xs.flatMap tokB ++ r ∧ xs.length = n ∧ (∀ x ∈ xs, TokOk x) ∧ areBytesN r = true
 | 0, l, xs, r, hB, h => by
  simp only [rtoks, Except.ok.injEq, Prod.mk.injEq] at h
  obtain ⟨rfl, rfl⟩ := h
  exact ⟨rfl, rfl, (fun x hx => by cases hx), hB⟩
 | n + 1, l, xs, r, hB, h => by
  rw [rtoks] at h
  obtain ⟨x, l1, h1, h⟩ := bnd_inv h
  obtain ⟨e1, t1, hB1⟩ := rtok_inv hB h1
  obtain ⟨ys, l2, h2, h⟩ := bnd_inv h
  obtain ⟨e2, n2, t2, hB2⟩ := rtoks_inv n hB1 h2
  simp only [Except.ok.injEq, Prod.mk.injEq] at h
  obtain ⟨rfl, rfl⟩ := h
  refine ⟨by rw [List.flatMap_cons, List.append_assoc, ← e2]; exact e1, by rw [List.length_cons, n2], fun y hy => ?_, hB2⟩
  rcases List.mem_cons.1 hy with rfl | hy
  · exact t1
  · exact t2 y hy
theorem rdoc_put (xs : List K.S111) (r : List Int) (h : docE xs = 0) : rdoc (docB xs ++ r) = .ok (xs, r) := by
 obtain ⟨hl, hr⟩ := docE_zero h
 unfold rdoc docB
 rw [List.append_assoc, rnum_put _ _ _ (by omega) (by omega), bnd_ok, Int.toNat_natCast]
 exact rtoks_put xs r hr
theorem rdoc_inv {l : List Int} {xs : List K.S111} {r : List Int} (hB : areBytesN l = true) (h : rdoc l = .ok (xs, r)) : l = docB xs ++ r ∧ xs.length ≤ 2048 ∧ (∀ x ∈ xs, TokOk x) ∧ areBytesN r = true := by
 unfold rdoc at h
 obtain ⟨n, l1, h1, h⟩ := bnd_inv h
 obtain ⟨n0, n1, e1, hB1⟩ := rnum_inv hB h1
 obtain ⟨e2, n2, t2, hB2⟩ := rtoks_inv _ hB1 h
 refine ⟨by unfold docB; rw [n2, List.append_assoc, ← e2]; exact e1, by omega, t2, hB2⟩
def rent (l : List Int) : Rd K.S26 :=
 bnd (rnum most l) fun who l => bnd (rnum most l) fun seq l => bnd (rnum 3 l) fun k l => bnd (rnum most l) fun f l => bnd (rnum most l) fun t l =>
  if k = 2 ∨ k = 3 then bnd (rnum most l) fun m l => .ok (⟨who, seq, ⟨k, f, t, 0, 0, 0, [], m⟩⟩, l)
  else if k = 1 then bnd (rnum most l) fun gf l => bnd (rnum most l) fun gt l => bnd (rnum most l) fun ins l => bnd (rdoc l) fun s l => .ok (⟨who, seq, ⟨k, f, t, gf, gt, ins, s, 0⟩⟩, l)
  else bnd (rdoc l) fun s l => .ok (⟨who, seq, ⟨k, f, t, 0, 0, 0, s, 0⟩⟩, l)
theorem vbs_cons (a : Int) (l : List Int) : vbs (a :: l) = vb a.toNat ++ vbs l := rfl
theorem vbs_nil' : vbs [] = [] := rfl
theorem entryE_kind {x : K.S26} (h : entryE x = 0) : docE x.f2.f6 = 0 ∧ ((x.f2.f0 = 1 ∧ x.f2.f7 = 0) ∨ (x.f2.f0 = 0 ∧ x.f2.f7 = 0 ∧ x.f2.f3 = 0 ∧ x.f2.f4 = 0 ∧ x.f2.f5 = 0) ∨ ((x.f2.f0 = 2 ∨ x.f2.f0 = 3) ∧ x.f2.f3 = 0 ∧ x.f2.f4 = 0 ∧ x.f2.f5 = 0 ∧ x.f2.f6 = [])) := by
 unfold entryE at h
 split at h
 · cases h
 unfold stepE at h
 split at h
 · cases h
 rename_i h2
 split at h
 case isFalse => cases h
 rename_i h3
 unfold stepOk at h3
 simp only [Bool.and_eq_true, decide_eq_true_eq] at h3
 obtain ⟨_, hk, ha⟩ := h3
 refine ⟨by unfold docE; rw [if_neg h2, if_pos ha], ?_⟩
 unfold kindOk gaps0 at hk
 split at hk
 · rename_i q
   rw [decide_eq_true_eq] at hk
   exact .inl ⟨q, hk.2.2.2.2.2⟩
 · split at hk
   · rename_i q
     simp only [Bool.and_eq_true, beq_iff_eq] at hk
     exact .inr (.inl ⟨q, hk.1, hk.2.1, hk.2.2.1, hk.2.2.2⟩)
   · split at hk
     · rename_i q
       simp only [Bool.and_eq_true, beq_iff_eq, decide_eq_true_eq] at hk
       exact .inr (.inr ⟨q, hk.2.2.2.1, hk.2.2.2.2.1, hk.2.2.2.2.2, List.eq_nil_of_length_eq_zero (by omega)⟩)
     · cases hk
theorem rent_put (x : K.S26) (r : List Int) (h : entryE x = 0) : rent (entryB x ++ r) = .ok (x, r) := by
 obtain ⟨hd, hk⟩ := entryE_kind h
 obtain ⟨h1, h2, h3, h4, h5, h6, h7, h8, h9, h10, h11⟩ := entryE_zero h
 obtain ⟨who, seq, ⟨k, f, t, gf, gt, ins, sl, m⟩⟩ := x
 simp only at h1 h2 h3 h4 h5 h6 h7 h8 h9 h10 h11 hd hk
 unfold rent entryB most
 simp only [vbs_cons, vbs_nil', List.append_nil, List.append_assoc]
 rw [rnum_put' _ _ _ h1.1 (by omega) (by omega), bnd_ok, rnum_put' _ _ _ h2.1 (by omega) (by omega), bnd_ok, rnum_put' _ _ _ h3.1 (by omega) (by omega), bnd_ok, rnum_put' _ _ _ h4.1 (by omega) (by omega), bnd_ok, rnum_put' _ _ _ h5.1 (by omega) (by omega), bnd_ok]
 rcases hk with ⟨rfl, rfl⟩ | ⟨rfl, rfl, rfl, rfl, rfl⟩ | ⟨hk, rfl, rfl, rfl, rfl⟩
 · rw [if_neg (by decide), if_pos rfl, if_neg (by decide), if_pos rfl]
   simp only [List.append_assoc]
   rw [rnum_put' _ _ _ h6.1 (by omega) (by omega), bnd_ok, rnum_put' _ _ _ h7.1 (by omega) (by omega), bnd_ok, rnum_put' _ _ _ h8.1 (by omega) (by omega), bnd_ok, rdoc_put _ _ hd, bnd_ok]
 · rw [if_neg (by decide), if_neg (by decide), if_neg (by decide), if_neg (by decide), rdoc_put _ _ hd, bnd_ok]
 · rw [if_pos hk, if_pos hk, rnum_put' _ _ _ h9.1 (by omega) (by omega), bnd_ok]
theorem rent_inv {l : List Int} {x : K.S26} {r : List Int} (hB : areBytesN l = true) (h : rent l = .ok (x, r)) : l = entryB x ++ r ∧ areBytesN r = true := by
 unfold rent most at h
 obtain ⟨who, l1, h1, h⟩ := bnd_inv h
 obtain ⟨a1, b1, e1, hB1⟩ := rnum_inv hB h1
 obtain ⟨seq, l2, h2, h⟩ := bnd_inv h
 obtain ⟨a2, b2, e2, hB2⟩ := rnum_inv hB1 h2
 obtain ⟨k, l3, h3, h⟩ := bnd_inv h
 obtain ⟨a3, b3, e3, hB3⟩ := rnum_inv hB2 h3
 obtain ⟨f, l4, h4, h⟩ := bnd_inv h
 obtain ⟨a4, b4, e4, hB4⟩ := rnum_inv hB3 h4
 obtain ⟨t, l5, h5, h⟩ := bnd_inv h
 obtain ⟨a5, b5, e5, hB5⟩ := rnum_inv hB4 h5
 unfold entryB
 split at h
 · rename_i q
   obtain ⟨m, l6, h6, h⟩ := bnd_inv h
   obtain ⟨a6, b6, e6, hB6⟩ := rnum_inv hB5 h6
   simp only [Except.ok.injEq, Prod.mk.injEq] at h
   obtain ⟨rfl, rfl⟩ := h
   refine ⟨?_, hB6⟩
   simp only [vbs_cons, vbs_nil', List.append_nil, List.append_assoc]
   rw [if_pos q, ← e6, ← e5, ← e4, ← e3, ← e2]
   exact e1
 · rename_i q
   split at h
   · rename_i q1
     obtain ⟨gf, l6, h6, h⟩ := bnd_inv h
     obtain ⟨a6, b6, e6, hB6⟩ := rnum_inv hB5 h6
     obtain ⟨gt, l7, h7, h⟩ := bnd_inv h
     obtain ⟨a7, b7, e7, hB7⟩ := rnum_inv hB6 h7
     obtain ⟨ins, l8, h8, h⟩ := bnd_inv h
     obtain ⟨a8, b8, e8, hB8⟩ := rnum_inv hB7 h8
     obtain ⟨s, l9, h9, h⟩ := bnd_inv h
     obtain ⟨e9, _, _, hB9⟩ := rdoc_inv hB8 h9
     simp only [Except.ok.injEq, Prod.mk.injEq] at h
     obtain ⟨rfl, rfl⟩ := h
     refine ⟨?_, hB9⟩
     simp only [vbs_cons, vbs_nil', List.append_nil, List.append_assoc]
     rw [if_neg q, if_pos q1]
     simp only [List.append_assoc]
     rw [← e9, ← e8, ← e7, ← e6, ← e5, ← e4, ← e3, ← e2]
     exact e1
   · rename_i q1
     obtain ⟨s, l9, h9, h⟩ := bnd_inv h
     obtain ⟨e9, _, _, hB9⟩ := rdoc_inv hB5 h9
     simp only [Except.ok.injEq, Prod.mk.injEq] at h
     obtain ⟨rfl, rfl⟩ := h
     refine ⟨?_, hB9⟩
     simp only [vbs_cons, vbs_nil', List.append_nil, List.append_assoc]
     rw [if_neg q, if_neg q1, ← e9, ← e5, ← e4, ← e3, ← e2]
     exact e1
def rents : Nat → List Int → Rd (List K.S26)
 | 0, l => .ok ([], l)
 | n + 1, l => bnd (rent l) fun x l => bnd (rents n l) fun xs l => .ok (x :: xs, l)
def rmsg (l : List Int) : Rd MsgL :=
 bnd (rnum most l) fun k l => bnd (rnum most l) fun who l => bnd (rnum most l) fun ver l => bnd (rnum 1024 l) fun n l => bnd (rents n.toNat l) fun xs l => .ok (⟨k, who, ver, xs⟩, l)
def allF {α : Type} (z : α) (ok : α → Int) (r : Rd α) : α × Int := match r with | .error e => (z, e) | .ok (x, r) => if 0 < r.length ∨ ok x ≠ 0 then (z, 4) else (x, 0)
def getDocF (b : List Int) : List K.S111 × Int := allF [] docE (rdoc b)
def getEntryF (b : List Int) : K.S26 × Int := allF K.z26 entryE (rent b)
def zMsg : MsgL := ⟨0, 0, 0, []⟩
def getMsgF (b : List Int) : MsgL × Int := allF zMsg msgE (rmsg b)
theorem allF_put {α : Type} (z : α) (ok : α → Int) {r : Rd α} {x : α} (h : r = .ok (x, [])) (hx : ok x = 0) : allF z ok r = (x, 0) := by
 subst h
 unfold allF
 simp only
 rw [if_neg (by simp [hx])]
theorem allF_inv {α : Type} {z : α} {ok : α → Int} {r : Rd α} {x : α} (he : ∀ e, r = .error e → e ≠ 0) (h : allF z ok r = (x, 0)) : r = .ok (x, []) ∧ ok x = 0 := by
 match r, he, h with
 | .error e, he, h => exact absurd (congrArg (fun p => p.2) h) (he e rfl)
 | .ok (y, l), _, h =>
  unfold allF at h
  simp only at h
  split at h
  · cases congrArg (fun p => p.2) h
  · rename_i q
    obtain rfl : y = x := congrArg (fun p => p.1) h
    have hl : l = [] := List.eq_nil_of_length_eq_zero (by omega)
    rw [hl]
    exact ⟨rfl, by omega⟩
theorem rnum_err {top : Int} {l : List Int} {e : Int} (h : rnum top l = .error e) : e ≠ 0 := by
 unfold rnum at h
 split at h
 · rename_i q
   simp only [Except.error.injEq] at h
   omega
 · split at h
   · simp only [Except.error.injEq] at h; omega
   · cases h
def ErrNz {α : Type} (r : Rd α) : Prop := ∀ e, r = .error e → e ≠ 0
theorem ErrNz.bnd {α β : Type} {r : Rd α} {f : α → List Int → Rd β} (h : ErrNz r) (hf : ∀ a l, ErrNz (f a l)) : ErrNz (bnd r f) := by
 match r, h with
 | .error e, h => intro e' he; exact h e' (by have := Except.error.inj he; rw [this])
 | .ok (a, l), _ => exact hf a l
theorem ErrNz.ok {α : Type} (x : α × List Int) : ErrNz (.ok x : Rd α) := fun e h => by cases h
theorem ErrNz.num (top : Int) (l : List Int) : ErrNz (rnum top l) := fun e h => rnum_err h
theorem ErrNz.tok (l : List Int) : ErrNz (rtok l) := by
 unfold rtok
 refine (ErrNz.num _ _).bnd fun k l => ?_
 split
 · exact (ErrNz.num _ _).bnd fun _ _ => .ok _
 · split
   · exact (ErrNz.num _ _).bnd fun _ _ => .ok _
   · exact .ok _
theorem ErrNz.toks : ∀ (n : Nat) (l : List Int), ErrNz (rtoks n l)
 | 0, l => .ok _
 | n + 1, l => (ErrNz.tok l).bnd fun _ l => (ErrNz.toks n l).bnd fun _ _ => .ok _
theorem ErrNz.doc (l : List Int) : ErrNz (rdoc l) := (ErrNz.num _ _).bnd fun n l => ErrNz.toks _ l
theorem ErrNz.ent (l : List Int) : ErrNz (rent l) := by
 unfold rent
 refine (ErrNz.num _ _).bnd fun _ _ => (ErrNz.num _ _).bnd fun _ _ => (ErrNz.num _ _).bnd fun _ _ => (ErrNz.num _ _).bnd fun _ _ => (ErrNz.num _ _).bnd fun _ _ => ?_
 split
 · exact (ErrNz.num _ _).bnd fun _ _ => .ok _
 · split
   · exact (ErrNz.num _ _).bnd fun _ _ => (ErrNz.num _ _).bnd fun _ _ => (ErrNz.num _ _).bnd fun _ _ => (ErrNz.doc _).bnd fun _ _ => .ok _
   · exact (ErrNz.doc _).bnd fun _ _ => .ok _
theorem getEntry_put {x : K.S26} (h : entryE x = 0) : getEntryF (entryB x) = (x, 0) := allF_put _ _ (by have := rent_put x [] h; rwa [List.append_nil] at this) h
theorem getEntry_one {b : List Int} {x : K.S26} (hB : areBytesN b = true) (h : getEntryF b = (x, 0)) : entryE x = 0 ∧ entryB x = b := by
 obtain ⟨h1, h2⟩ := allF_inv (ErrNz.ent b) h
 have := (rent_inv hB h1).1
 rw [List.append_nil] at this
 exact ⟨h2, this.symm⟩
end Go.Proofs.Ytmbnjgnmblgjoaa.Man
end
section
namespace Go.Proofs.Ytmbnjgnmblgjoaa.Man
open Go.RowKit Go.Proofs.YtmbnjgnmblgjoaaW.PrintWords Go.Proofs.YtmbnjgnmblgjoaaW.PrintLast Go.Proofs.YtmbnjgnmblgjoaaW.PrintMore
set_option linter.unusedVariables false
set_option linter.unusedSimpArgs false
set_option maxRecDepth 100000
abbrev errCh (f : Int) : List PanicEntry := [{ v := .iface 28 (.int .i64 f), recovered := false }]
def SpotAt (w : World) (P : Nat) (A : Option Addr) (c n p : Nat) : Prop := w.heap[P]? = some (.cells #[.slice A n c, .int .i64 (p : Int)] 194 (0, 0))
theorem SpotAt.c0 {w : World} {P c n p : Nat} {A : Option Addr} (k : SpotAt w P A c n p) : w.cell? ⟨P, 0, none⟩ = some (.slice A n c) := by simp [World.cell?, show w.heap[P]? = _ from k]
theorem SpotAt.c1 {w : World} {P c n p : Nat} {A : Option Addr} (k : SpotAt w P A c n p) : w.cell? ⟨P, 1, none⟩ = some (.int .i64 (p : Int)) := by simp [World.cell?, show w.heap[P]? = _ from k]
theorem SpotAt.f {w : World} {P c n p : Nat} {A : Option Addr} (k : SpotAt w P A c n p) (i : Nat) : w.frozen? ⟨P, i, none⟩ = false := by simp [World.frozen?, show w.heap[P]? = _ from k]
theorem SpotAt.lt {w : World} {P c n p : Nat} {A : Option Addr} (k : SpotAt w P A c n p) : P < w.heap.size := (Array.getElem?_eq_some_iff.1 k).1
theorem SpotAt.put {w : World} {P c n p : Nat} {A : Option Addr} (k : SpotAt w P A c n p) (q : Nat) : SpotAt (w.setCell ⟨P, 1, none⟩ (.int .i64 (q : Int))) P A c n q := by
 unfold SpotAt World.setCell
 simp [Array.getElem?_modify, show w.heap[P]? = _ from k]
theorem SpotAt.below {w w1 : World} {P c n p m : Nat} {A : Option Addr} (k : SpotAt w P A c n p) (h : Below m w w1) (hm : P < m) : SpotAt w1 P A c n p := (h.block P hm).trans k
theorem SpotAt.drewN {w : World} {P c n p m : Nat} {A : Option Addr} (k : SpotAt w P A c n p) : SpotAt (w.drewN m) P A c n p := (congrArg (fun h => h[P]?) (by simp [World.drewN] : (w.drewN m).heap = w.heap)).trans k
theorem rnum_getF {top : Int} {b : List Int} {p : Nat} (hp : p ≤ b.length) : rnum top (b.drop p) = if (getF b p).2.2 ≠ 0 then .error (getF b p).2.2 else if top < (getF b p).1 then .error 4 else .ok ((getF b p).1, b.drop (getF b p).2.1.toNat) := by
 have e : getF b p = (((getL (b.drop p) 0 0).1 : Int), (p : Int) + ((getL (b.drop p) 0 0).2.1 : Int), (getL (b.drop p) 0 0).2.2) := by
  unfold getF
  rw [if_neg (by omega), Int.toNat_natCast]
 rw [e]
 unfold rnum
 simp only
 rw [List.drop_drop, show ((p : Int) + ((getL (b.drop p) 0 0).2.1 : Int)).toNat = p + (getL (b.drop p) 0 0).2.1 by omega]
theorem getF_spot {b : List Int} {p : Nat} (hB : areBytesN b = true) (h : (getF b p).2.2 = 0) : ∃ q : Nat, (getF b p).2.1 = (q : Int) ∧ p ≤ q ∧ q ≤ b.length := by
 obtain ⟨_, h1, h2, _⟩ := getF_range b p hB h
 exact ⟨(getF b p).2.1.toNat, by omega, by omega, by omega⟩
theorem fail_no (P : Value) (w : World) : Calls Try.prog 144 #[P, .bool false] w fun e w' => e = .returned (.tuple #[]) ∧ w = w' := by
 go_enter Try.func144, Try.ntmps144
 go_wp2
 go_end0
 exact ⟨rfl, rfl⟩
theorem fail_yes (P : Value) (w : World) : Calls Try.prog 144 #[P, .bool true] w fun e w' => e = .panicked (errCh 4) ∧ w = w' := by
 go_enter Try.func144, Try.ntmps144
 go_wp2
 exact ⟨rfl, rfl, rfl⟩
theorem grown_drewN (w : World) (m : Nat) (r : Option Nat) : w.grownBy (w.drewN m) r := grown_of_below (pw_below_drewN (Below.refl _ _) m) r
set_option maxHeartbeats 4000000 in
theorem snum_ok {w : World} {P c p : Nat} {A : Option Addr} {b : List Int} (k : SpotAt w P A c b.length p) (hC : Kd.C (Kd.int .u8) w A b.length b) (hc : b.length ≤ c) (hB : areBytesN b = true) (hp : p ≤ b.length) (top : Int) (ht0 : 0 ≤ top) (ht1 : top ≤ 2147483647)
 (n : Int) (r : List Int) (h : rnum top (b.drop p) = .ok (n, r)) :
 Calls Try.prog 131 #[.pointer (some ⟨P, 0, none⟩), .int .i64 top] w fun e w' => e = .returned (.int .i64 n) ∧ SpotAt w' P A c b.length (b.length - r.length) ∧ w.grownBy w' (some P) := by
 rw [rnum_getF hp] at h
 split at h
 · cases h
 rename_i h0
 split at h
 · cases h
 rename_i h1
 have h00 : (getF b p).2.2 = 0 := by omega
 obtain ⟨q, hq, hpq, hqb⟩ := getF_spot hB h00
 have hg0 := (getF_range b p hB h00).2.2.2
 have hG : ∀ m, Calls Try.prog 91 #[.slice A b.length c, .int .i64 (p : Int)] (w.drewN m) fun e w' => e = .returned (.tuple #[.int .u64 (getF b p).1, .int .i64 (q : Int), .int .i64 0]) ∧ w' = w.drewN m := fun m => by
  have := get_any A c b p (w.drewN m) (Kd.C_below hC (pw_below_drewN (Below.refl _ _) m)) hc hB
  rw [h00, hq] at this
  exact this.mono fun _ _ ⟨e1, e2⟩ => ⟨e1, e2.symm⟩
 have hnr : n = (getF b p).1 ∧ r = b.drop q := by
  simp only [Except.ok.injEq, Prod.mk.injEq] at h
  rw [hq, Int.toNat_natCast] at h
  exact ⟨h.1.symm, h.2.symm⟩
 obtain ⟨rfl, rfl⟩ := hnr
 have hrl : b.length - (b.drop q).length = q := by rw [List.length_drop]; omega
 rw [hrl]
 generalize (getF b p).1 = n at h1 hg0 hG
 have HG := Lib.hid hG
 have HK := Lib.hid k
 have k0 := k.c0
 have k1 := k.c1
 have kf := k.f 1
 have hU : IntKind.u64.wrap top = top := by rw [IntKind.wrap_u64]; omega
 have ht : decide (top < n) = false := by rw [decide_eq_false_iff_not]; omega
 clear h h0 hq hrl hC hG k h00
 go_enter Try.func131, Try.ntmps131
 go_wp2
 go_quiet ((go_at_call 91; exact Calls.quiet_of_same (HG.out _)))
 go_wp2_with (go_at_call 144; refine (fail_no _ _).mono ?_; rintro e w' ⟨rfl, rfl⟩)
 go_ret
 exact ⟨rfl, SpotAt.put (SpotAt.drewN HK.out) q, grownBy_set _ _ _ _ (grown_drewN _ _ _)⟩
set_option maxHeartbeats 4000000 in
theorem snum_err {w : World} {P c p : Nat} {A : Option Addr} {b : List Int} (k : SpotAt w P A c b.length p) (hC : Kd.C (Kd.int .u8) w A b.length b) (hc : b.length ≤ c) (hB : areBytesN b = true) (hp : p ≤ b.length) (top : Int) (ht0 : 0 ≤ top) (ht1 : top ≤ 2147483647)
 (f : Int) (h : rnum top (b.drop p) = .error f) :
 Calls Try.prog 131 #[.pointer (some ⟨P, 0, none⟩), .int .i64 top] w fun e w' => e = .panicked (errCh f) ∧ w.grownBy w' (some P) := by
 rw [rnum_getF hp] at h
 have hG : ∀ m, Calls Try.prog 91 #[.slice A b.length c, .int .i64 (p : Int)] (w.drewN m) fun e w' => e = .returned (.tuple #[.int .u64 (getF b p).1, .int .i64 (getF b p).2.1, .int .i64 (getF b p).2.2]) ∧ w' = w.drewN m := fun m =>
  (get_any A c b p (w.drewN m) (Kd.C_below hC (pw_below_drewN (Below.refl _ _) m)) hc hB).mono fun _ _ ⟨e1, e2⟩ => ⟨e1, e2.symm⟩
 have k0 := k.c0
 have k1 := k.c1
 have kf := k.f 1
 have hg0 := getF_range b p hB
 clear hC k
 obtain ⟨⟨n, nx, er⟩, hg⟩ : ∃ g, getF b p = g := ⟨_, rfl⟩
 rw [hg] at h hG hg0
 simp only at h hG hg0
 have HG := Lib.hid hG
 clear hG hg
 split at h
 · rename_i h0
   simp only [Except.error.injEq] at h
   subst h
   have hne : (er != 0) = true := by simpa using h0
   clear hg0 h0
   go_enter Try.func131, Try.ntmps131
   go_wp2
   go_quiet ((go_at_call 91; exact Calls.quiet_of_same (HG.out _)))
   go_wp2
   exact ⟨rfl, rfl, grown_drewN _ _ _⟩
 · rename_i h0
   obtain rfl : er = 0 := by omega
   obtain ⟨_, _, _, hn⟩ := hg0 rfl
   split at h
   case isFalse => cases h
   rename_i h1
   simp only [Except.error.injEq] at h
   subst h
   have hU : IntKind.u64.wrap top = top := by rw [IntKind.wrap_u64]; omega
   have ht : decide (top < n) = true := decide_eq_true h1
   clear h0 h1
   go_enter Try.func131, Try.ntmps131
   go_wp2
   go_quiet ((go_at_call 91; exact Calls.quiet_of_same (HG.out _)))
   go_wp2_with (go_at_call 144; refine (fail_yes _ _).mono ?_; rintro e w' ⟨rfl, rfl⟩)
   exact ⟨rfl, rfl, grown_drewN _ _ _⟩
end Go.Proofs.Ytmbnjgnmblgjoaa.Man
end
section
namespace Go.Proofs.Ytmbnjgnmblgjoaa.Man
open Go.RowKit Go.Proofs.YtmbnjgnmblgjoaaW.PrintWords Go.Proofs.YtmbnjgnmblgjoaaW.PrintLast Go.Proofs.YtmbnjgnmblgjoaaW.PrintMore
set_option linter.unusedVariables false
set_option linter.unusedSimpArgs false
set_option maxRecDepth 100000
def RdP {α : Type} (w : World) (P : Nat) (A : Option Addr) (c : Nat) (b : List Int) (ret : α → Value → World → Prop) (res : Rd α) (e : Ending) (w' : World) : Prop :=
 w.grownBy w' (some P) ∧ match res with
 | .error f => e = .panicked (errCh f)
 | .ok (x, r) => ∃ v, e = .returned v ∧ ret x v w' ∧ SpotAt w' P A c b.length (b.length - r.length)
theorem RdP.err {α : Type} {w : World} {P : Nat} {A : Option Addr} {c : Nat} {b : List Int} {ret : α → Value → World → Prop} {res : Rd α} {f : Int} {w' : World} (hr : res = .error f) (hg : w.grownBy w' (some P)) : RdP w P A c b ret res (.panicked (errCh f)) w' := by
 subst hr
 exact ⟨hg, rfl⟩
theorem RdP.ok {α : Type} {w : World} {P : Nat} {A : Option Addr} {c : Nat} {b : List Int} {ret : α → Value → World → Prop} {res : Rd α} {x : α} {r : List Int} {v : Value} {w' : World} {q : Nat} (hr : res = .ok (x, r)) (hg : w.grownBy w' (some P)) (hv : ret x v w')
 (hs : SpotAt w' P A c b.length q) (hq : b.length - r.length = q) : RdP w P A c b ret res (.returned v) w' := by
 subst hr
 subst hq
 exact ⟨hg, v, rfl, hv, hs⟩
theorem rnum_rest {top : Int} {b : List Int} {p : Nat} {n : Int} {r : List Int} (hB : areBytesN b = true) (hp : p ≤ b.length) (h : rnum top (b.drop p) = .ok (n, r)) : ∃ q, q ≤ b.length ∧ r = b.drop q ∧ b.length - r.length = q ∧ 0 ≤ n ∧ n ≤ top := by
 have h2 := rnum_inv (areBytesN_drop hB p) h
 rw [rnum_getF hp] at h
 split at h
 · cases h
 rename_i h0
 split at h
 · cases h
 obtain ⟨q, hq, hpq, hqb⟩ := getF_spot (p := p) hB (by omega)
 simp only [Except.ok.injEq, Prod.mk.injEq] at h
 rw [hq, Int.toNat_natCast] at h
 exact ⟨q, hqb, h.2.symm, by rw [← h.2, List.length_drop]; omega, h2.1, h2.2.1⟩
abbrev TR (w : World) (base : Nat) (v : Value) (xs : List K.S111) : Prop := Kd.R K.k111 111 w base (fun _ => True) v xs
theorem info_tok : (Try.prog.info? 111).map (fun i => (i.zero, i.size, i.bytes)) = some (some (.agg #[.int .i64 0, .int .i64 0, .int .i64 0, .int .i64 0]), 4, 32) := by kernel_rfl
theorem TR.push_ev {ops : Array Oper} {rest : List Oper} {o : Oper} {a : Act} {Q : Exit → Act → World → Prop} {w : World} {base : Nat} {v : Value} {xs : List K.S111} {k t n m : Int} {N : Nat} (hN : w.heap.size = N)
 (h : TR w base v xs) (hgd : o.guard = none) (s x : Operand) (ho : o.op = .call { callee := .builtin .append, args := #[s, x], argTypes := #[22, 22] })
 (hs : a.eval s = v) (hx : a.eval x = .slice (some ⟨N, 0, none⟩) 1 1) (hbase : base ≤ w.heap.size) (hl : xs.length ≤ 4000)
 (kk : ∀ v1 w1, TR w1 base v1 (xs ++ [⟨k, t, n, m⟩]) → Below base w w1 → wpList Try.prog ops Q rest (a.put o.dst v1) w1) : wpList Try.prog ops Q (o :: rest) a (w.alloc (.cells #[.int .i64 k, .int .i64 t, .int .i64 n, .int .i64 m] 111)) :=
 Kd.R_append K.k111 (w0 := w) base hgd s x 22 111 (.agg #[.int .i64 0, .int .i64 0, .int .i64 0, .int .i64 0]) 32 ho Try.underlying22 info_tok rfl (by decide) (by decide) v xs ⟨k, t, n, m⟩ [.int .i64 k, .int .i64 t, .int .i64 n, .int .i64 m] (fun _ => True) (fun _ => False) hs (by rw [hx, hN])
  (K.k111_mkM _ _ _ _) (fun _ h => h.elim) (fun _ _ => trivial) h (Below.refl _ _) hbase (by omega) (fun v1 w1 h1 h2 h3 h4 => kk v1 w1 h1 h2)
theorem TR.grown {w w1 : World} {base P : Nat} {v : Value} {xs : List K.S111} (h : TR w base v xs) (hg : w.grownBy w1 (some P)) (hP : P < base) : TR w1 base v xs :=
 Kd.R_mono (Kd.R_grown (Kd.R_bound h) hg (fun j hj e => by have h1 := hj.2.1; have h2 := Option.some.inj e; omega)) (fun _ _ => trivial)
theorem TR.over {w3 w4 : World} {base P : Nat} {v : Value} {xs : List K.S111} (h : TR w3 base v xs) (hg : w3.grownBy w4 (some P)) (hP : P < base) (T k : Nat) (u : Value) (hT : w3.heap.size ≤ T) : TR (w4.setCell ⟨T, k, none⟩ u) base v xs :=
 Kd.R_mono (Kd.R_grown (Kd.R_grown (Kd.R_bound h) hg (fun j hj e => by have h1 := hj.2.1; have h2 := Option.some.inj e; omega)) (grownBy_set w4 T k u (World.grownBy.refl w4 _)) (fun j hj e => by have h1 := hj.2.2.1; have h2 := Option.some.inj e; omega)) (fun _ _ => trivial)
theorem grown_onB {w w1 w2 : World} {r : Option Nat} {m : Nat} (hg : w.grownBy w1 r) (hb : Below m w1 w2) (hm : w.heap.size ≤ m) : w.grownBy w2 r :=
 ⟨hb.os.trans hg.os, hb.tape.trans hg.tape, hb.output.trans hg.output, Nat.le_trans hg.size hb.size, fun k hk hr => (hb.block k (by omega)).trans (hg.block k hk hr)⟩
theorem grown_setT {w w1 : World} {r : Option Nat} (hg : w.grownBy w1 r) (T k : Nat) (u : Value) (hT : w.heap.size ≤ T) : w.grownBy (w1.setCell ⟨T, k, none⟩ u) r :=
 ⟨hg.os, hg.tape, hg.output, by simpa [World.setCell] using hg.size, fun j hj hr => (Below.heap_setCell w1 ⟨T, k, none⟩ u j (by show j ≠ T; omega)).trans (hg.block j hj hr)⟩
def PtrAt (w : World) (R P : Nat) : Prop := w.heap[R]? = some (.cells #[.pointer (some ⟨P, 0, none⟩)] 140 (0, 0))
theorem PtrAt.c0 {w : World} {R P : Nat} (k : PtrAt w R P) : w.cell? ⟨R, 0, none⟩ = some (.pointer (some ⟨P, 0, none⟩)) := by simp [World.cell?, show w.heap[R]? = _ from k]
theorem PtrAt.lt {w : World} {R P : Nat} (k : PtrAt w R P) : R < w.heap.size := (Array.getElem?_eq_some_iff.1 k).1
theorem PtrAt.grown {w w1 : World} {R P : Nat} (k : PtrAt w R P) (hg : w.grownBy w1 (some P)) (hP : P < R) : PtrAt w1 R P := (hg.block _ k.lt (by intro e; have := Option.some.inj e; omega)).trans k
theorem SpotAt.grownB {w w1 : World} {P c n p m : Nat} {A : Option Addr} (k : SpotAt w P A c n p) (h : Below m w w1) (hm : P < m) : SpotAt w1 P A c n p := (h.block P hm).trans k
theorem and3 (k : Int) (h0 : 0 ≤ k) (h1 : k ≤ 2147483647) : Go.bits .and .i64 k 3 = k % 4 :=
 bits_mask .i64 63 (by decide) (fun n a b => by
  have b' : n < 9223372036854775808 := b
  rw [IntKind.wrap_i64]; omega) 2 (by decide) k h0 (by simp; omega)
theorem bnd_snoc {α : Type} (r : Rd (List α)) (ys : List α) (x : α) : bnd (bnd r fun xs l => (.ok (x :: xs, l) : Rd (List α))) (fun zs l => (.ok (ys ++ zs, l) : Rd (List α))) = bnd r fun zs l => .ok ((ys ++ [x]) ++ zs, l) := by
 rcases r with f | ⟨zs, l⟩
 · rfl
 · show (Except.ok (ys ++ x :: zs, l) : Rd (List α)) = .ok ((ys ++ [x]) ++ zs, l)
   rw [List.append_assoc]; rfl
theorem TokAt.f {w : World} {P : Nat} {x : K.S111} (k : TokAt w P x) (i : Nat) : w.frozen? ⟨P, i, none⟩ = false := by simp [World.frozen?, show w.heap[P]? = _ from k]
set_option maxHeartbeats 16000000 in
theorem sdoc_is {w0 w : World} {P c p : Nat} {A : Option Addr} {b : List Int} (hC : Kd.C (Kd.int .u8) w0 A b.length b) (hc : b.length ≤ c) (hB : areBytesN b = true) (hb : Below w0.heap.size w0 w) (hP : w0.heap.size ≤ P) (k : SpotAt w P A c b.length p) (hp : p ≤ b.length) :
 Calls Try.prog 125 #[.agg #[.pointer (some ⟨P, 0, none⟩)]] w (RdP w P A c b (fun xs v w' => TR w' w.heap.size v xs) (rdoc (b.drop p))) := by
 have hPl := k.lt
 obtain ⟨w1, hw1⟩ : ∃ w1, w1 = w.alloc (.cells #[.pointer (some ⟨P, 0, none⟩)] 140) := ⟨_, rfl⟩
 have hb1 : Below w.heap.size w w1 := by rw [hw1]; exact (Below.refl _ _).alloc (Nat.le_refl _) _
 have hR1 : PtrAt w1 w.heap.size P := by rw [hw1]; exact World.alloc_heap_new w _
 have hk1 : SpotAt w1 P A c b.length p := k.below hb1 hPl
 have hc1 := Kd.C_below hC (hb.trans (hb1.mono hb.size))
 have hg1 : w.grownBy w1 (some P) := grown_of_below hb1 _
 have HC := Lib.hid hC
 have HBB := Lib.hid hB
 have HG0 := Lib.hid (fun (W : World) (hg : w.grownBy W (some P)) => Kd.C_below hC (below_of_grown hb hg hP))
 clear k
 obtain ⟨X, hX⟩ : ∃ X, rdoc (b.drop p) = X := ⟨_, rfl⟩
 rw [hX]
 unfold rdoc at hX
 rcases hres : rnum 2048 (b.drop p) with f | ⟨n, r⟩
 · rw [hres, bnd_err] at hX
   have HN := Lib.hid (snum_err hk1 hc1 hc hB hp 2048 (by decide) (by decide) f hres)
   have HG1 := Lib.hid hg1
   have HX := Lib.hid hX.symm
   rw [hw1] at HN HG1
   clear hC hB hb hR1 hk1 hc1 hg1 hw1 hb1 hres hX HG0
   go_enter Try.func125, Try.ntmps125
   go_wp2_with (go_at_call 131; refine HN.out.mono ?_; rintro e w2 ⟨rfl, hg⟩; have HG2 := Lib.hid (HG1.out.trans hg); clear hg)
   exact ⟨rfl, RdP.err HX.out HG2.out⟩
 · obtain ⟨q, hq, rfl, hql, hn0, hn1⟩ := rnum_rest hB hp hres
   have hN := snum_ok hk1 hc1 hc hB hp 2048 (by decide) (by decide) n _ hres
   rw [hql] at hN
   rw [hres, bnd_ok] at hX
   obtain ⟨N, rfl⟩ : ∃ N : Nat, n = (N : Int) := ⟨n.toNat, by omega⟩
   rw [Int.toNat_natCast] at hX
   have HN := Lib.hid hN
   have HG1 := Lib.hid hg1
   have HX := Lib.hid hX.symm
   have HR1 := Lib.hid hR1
   have HW1 := Lib.hid hw1
   rw [hw1] at HN
   clear hC hB hb hR1 hk1 hc1 hg1 hw1 hb1 hres hX hN
   go_enter Try.func125, Try.ntmps125
   go_wp2_with (go_at_call 131; refine HN.out.mono ?_; rintro e w2 ⟨rfl, hk, hg⟩; rw [← HW1.out] at hg; have HK2 := Lib.hid hk; have HG2 := Lib.hid (HG1.out.trans hg); have HR2 := Lib.hid (HR1.out.grown hg hPl); clear hk hg)
   go_loopg [4, 11] N (fun g s4 s11 wr => ∃ (i q : Nat) (ys : List K.S111), s11 = .int .i64 i ∧ i ≤ N ∧ g = N - i ∧ q ≤ b.length ∧ ys.length = i ∧ Hid (X = bnd (rtoks (N - i) (b.drop q)) fun zs l => .ok (ys ++ zs, l)) ∧ Hid (TR wr (w.heap.size + 1) s4 ys) ∧ Hid (SpotAt wr P A c b.length q) ∧ Hid (w.grownBy wr (some P)) ∧ Hid (PtrAt wr w.heap.size P))
   case atStart => exact ⟨0, q, [], rfl, Nat.zero_le _, rfl, hq, rfl, Lib.hid (by
    rw [HX.out, Nat.sub_zero]
    rcases rtoks N (b.drop q) with f | ⟨zs, l⟩
    · rfl
    · rfl), Lib.hid (Kd.R_nil _ _ _ _ _), HK2, HG2, HR2⟩
   case round =>
    clear HX HK2 HG2 HR2 HN hql hq HG1 HR1 HW1
    obtain ⟨i, q1, ys, rfl, hi, hg, hq1, hyl, HX, HT, HK, HG, HR⟩ := hrel
    have r0 := HR.out.c0
    by_cases hlt : i < N
    · obtain ⟨d, hd⟩ : ∃ d, N - i = d + 1 := ⟨N - i - 1, by omega⟩
      have hd2 : N - (i + 1) = d := by omega
      have hX := HX.out
      rw [hd, rtoks] at hX
      unfold rtok most at hX
      have hwz : w.heap.size + 1 ≤ wr.heap.size := HR.out.lt
      have hcr := HG0.out wr HG.out
      clear HX
      rcases hres : rnum 2147483647 (b.drop q1) with f | ⟨kk, r⟩
      · rw [hres, bnd_err, bnd_err, bnd_err] at hX
        have HN := Lib.hid (snum_err HK.out hcr hc HBB.out hq1 2147483647 (by decide) (by decide) f hres)
        have HX := Lib.hid hX
        clear hres hX hcr hd hd2
        go_wp2_with (go_at_call 131; refine HN.out.mono ?_; rintro e w3 ⟨rfl, hg⟩; have HG3 := Lib.hid (HG.out.trans hg); clear hg)
        exact ⟨rfl, RdP.err HX.out HG3.out⟩
      · obtain ⟨q2, hq2, rfl, hql2, hk0, hk1⟩ := rnum_rest HBB.out hq1 hres
        have hN := snum_ok HK.out hcr hc HBB.out hq1 2147483647 (by decide) (by decide) kk _ hres
        rw [hql2] at hN
        rw [hres, bnd_ok] at hX
        have HN := Lib.hid hN
        have hand := and3 kk hk0 (by omega)
        obtain ⟨a, ha⟩ : ∃ a, kk % 4 = a := ⟨_, rfl⟩
        rw [ha] at hand
        have haa : a = 0 ∨ a = 1 ∨ a = 2 ∨ a = 3 := by omega
        have HA := Lib.hid ha
        have hyl2 : ys.length ≤ 2048 := by omega
        have HX := Lib.hid hX
        have HD := Lib.hid hd2
        clear hres hX hcr hd hN hd2 ha
        go_upto_region 6 with (go_at_call 131; refine HN.out.mono ?_; rintro e w3 ⟨rfl, hk, hg⟩; have HK3 := Lib.hid hk; have HG3 := Lib.hid (HG.out.trans hg); have HR3 := Lib.hid (HR.out.grown hg hPl); have HT3 := Lib.hid (HT.out.grown hg (by omega)); clear hk hg)
        rcases haa with rfl | rfl | rfl | rfl
        · have hX := HX.out
          rw [HA.out, if_pos rfl] at hX
          have hbt : Below w3.heap.size w3 (w3.alloc (.cells #[.int .i64 0, .int .i64 0, .int .i64 (kk / 4), .int .i64 0] 111)) := (Below.refl _ _).alloc (Nat.le_refl _) _
          have HTK : Hid (TokAt (w3.alloc (.cells #[.int .i64 0, .int .i64 0, .int .i64 (kk / 4), .int .i64 0] 111)) w3.heap.size ⟨0, 0, kk / 4, 0⟩) := Lib.hid (World.alloc_heap_new w3 _)
          have hGt : w.grownBy (w3.alloc (.cells #[.int .i64 0, .int .i64 0, .int .i64 (kk / 4), .int .i64 0] 111)) (some P) := HG3.out.trans (grown_of_below hbt _)
          have hKt := HK3.out.grownB hbt HK3.out.lt
          have rt := (HR3.out.grown (grown_of_below hbt _) hPl).c0
          have hCt := HG0.out _ hGt
          have HGT := Lib.hid hGt
          have HBT := Lib.hid hbt
          rcases hres : rnum 2147483647 (b.drop q2) with f | ⟨m, r⟩
          · rw [hres] at hX
            have HN2 := Lib.hid (snum_err hKt hCt hc HBB.out hq2 2147483647 (by decide) (by decide) f hres)
            have HX2 := Lib.hid (show X = .error f from hX)
            clear hres hX hbt hGt hKt hCt HX HTK
            go_wp2_with (go_at_call 131; refine HN2.out.mono ?_; rintro e w4 ⟨rfl, hg⟩; have HG4 := Lib.hid (HGT.out.trans hg); clear hg)
            exact ⟨rfl, RdP.err HX2.out HG4.out⟩
          · obtain ⟨q3, hq3, rfl, hql3, hm0, hm1⟩ := rnum_rest HBB.out hq2 hres
            have hN2 := snum_ok hKt hCt hc HBB.out hq2 2147483647 (by decide) (by decide) m _ hres
            rw [hql3] at hN2
            rw [hres] at hX
            have HN2 := Lib.hid hN2
            have HX2 : Hid (X = bnd (rtoks (N - (i + 1)) (b.drop q3)) fun zs l => .ok ((ys ++ [⟨0, 0, kk / 4, m⟩]) ++ zs, l)) := Lib.hid (by rw [HD.out, ← bnd_snoc]; exact hX)
            clear hres hX hbt hGt hKt hCt hN2 HX HN
            go_wp2_with (first
             | (go_at_call 131; refine HN2.out.mono ?_; rintro e w4 ⟨rfl, hk, hg⟩; have HK4 := Lib.hid hk; have hT4 : TokAt w4 w3.heap.size ⟨0, 0, kk / 4, 0⟩ := (hg.block _ HTK.out.lt (by intro e; have e2 := Option.some.inj e; have := HK3.out.lt; omega)).trans HTK.out; have d0 := hT4.c0; have d1 := hT4.c1; have d2 := hT4.c2; have d3 := hT4.c3; have df := hT4.f 3; have HG4 := Lib.hid (HGT.out.trans hg); have HT4 := Lib.hid (TR.over HT3.out ((grown_of_below HBT.out _).trans hg) (by omega) w3.heap.size 3 (.int .i64 m) (Nat.le_refl _)); have HR4 := Lib.hid ((HR3.out.grown (grown_of_below HBT.out _) hPl).grown hg hPl); have HZ4 : Hid (w3.heap.size < w4.heap.size) := Lib.hid hT4.lt; clear hk hg hT4)
             | (at_builtin; refine TR.push_ev (w := w4.setCell ⟨w3.heap.size, 3, none⟩ (.int .i64 m)) (N := w4.heap.size) (by simp [World.setCell]) HT4.out rfl (.tmp 36) (.tmp 38) rfl rfl rfl (by have := HR4.out.lt; simp [World.setCell]; omega) (by omega) ?_; intro v5 w5 hr5 hb5; have HT5 := Lib.hid hr5; have HG5 := Lib.hid (grown_onB (grown_setT HG4.out w3.heap.size 3 (.int .i64 m) HG3.out.size) hb5 (Nat.le_succ _)); have HR5 : Hid (PtrAt w5 w.heap.size P) := Lib.hid ((hb5.block _ (Nat.lt_succ_self _)).trans ((Below.heap_setCell w4 _ _ _ (by have := HR3.out.lt; show w.heap.size ≠ w3.heap.size; omega)).trans HR4.out)); have HK5 : Hid (SpotAt w5 P A c b.length q3) := Lib.hid ((hb5.block _ (by omega)).trans ((Below.heap_setCell w4 _ _ _ (by have := HK3.out.lt; show P ≠ w3.heap.size; omega)).trans HK4.out)); clear hr5 hb5))
            go_roundg (N - (i + 1))
            case measure => omega
            case rel => exact ⟨i + 1, q3, ys ++ [⟨0, 0, kk / 4, m⟩], by go_num, by omega, rfl, hq3, by rw [List.length_append, hyl]; rfl, HX2, HT5, HK5, HG5, HR5⟩
        · have hX := HX.out
          rw [HA.out, if_neg (by decide), if_pos (by decide)] at hX
          have hbt : Below w3.heap.size w3 (w3.alloc (.cells #[.int .i64 1, .int .i64 0, .int .i64 (kk / 4), .int .i64 0] 111)) := (Below.refl _ _).alloc (Nat.le_refl _) _
          have HTK : Hid (TokAt (w3.alloc (.cells #[.int .i64 1, .int .i64 0, .int .i64 (kk / 4), .int .i64 0] 111)) w3.heap.size ⟨1, 0, kk / 4, 0⟩) := Lib.hid (World.alloc_heap_new w3 _)
          have hGt : w.grownBy (w3.alloc (.cells #[.int .i64 1, .int .i64 0, .int .i64 (kk / 4), .int .i64 0] 111)) (some P) := HG3.out.trans (grown_of_below hbt _)
          have hKt := HK3.out.grownB hbt HK3.out.lt
          have rt := (HR3.out.grown (grown_of_below hbt _) hPl).c0
          have hCt := HG0.out _ hGt
          have HGT := Lib.hid hGt
          have HBT := Lib.hid hbt
          rcases hres : rnum 2147483647 (b.drop q2) with f | ⟨m, r⟩
          · rw [hres] at hX
            have HN2 := Lib.hid (snum_err hKt hCt hc HBB.out hq2 2147483647 (by decide) (by decide) f hres)
            have HX2 := Lib.hid (show X = .error f from hX)
            clear hres hX hbt hGt hKt hCt HX HTK
            go_wp2_with (go_at_call 131; refine HN2.out.mono ?_; rintro e w4 ⟨rfl, hg⟩; have HG4 := Lib.hid (HGT.out.trans hg); clear hg)
            exact ⟨rfl, RdP.err HX2.out HG4.out⟩
          · obtain ⟨q3, hq3, rfl, hql3, hm0, hm1⟩ := rnum_rest HBB.out hq2 hres
            have hN2 := snum_ok hKt hCt hc HBB.out hq2 2147483647 (by decide) (by decide) m _ hres
            rw [hql3] at hN2
            rw [hres] at hX
            have HN2 := Lib.hid hN2
            have HX2 : Hid (X = bnd (rtoks (N - (i + 1)) (b.drop q3)) fun zs l => .ok ((ys ++ [⟨1, m, kk / 4, 0⟩]) ++ zs, l)) := Lib.hid (by rw [HD.out, ← bnd_snoc]; exact hX)
            clear hres hX hbt hGt hKt hCt hN2 HX HN
            go_wp2_with (first
             | (go_at_call 131; refine HN2.out.mono ?_; rintro e w4 ⟨rfl, hk, hg⟩; have HK4 := Lib.hid hk; have hT4 : TokAt w4 w3.heap.size ⟨1, 0, kk / 4, 0⟩ := (hg.block _ HTK.out.lt (by intro e; have e2 := Option.some.inj e; have := HK3.out.lt; omega)).trans HTK.out; have d0 := hT4.c0; have d1 := hT4.c1; have d2 := hT4.c2; have d3 := hT4.c3; have df := hT4.f 1; have HG4 := Lib.hid (HGT.out.trans hg); have HT4 := Lib.hid (TR.over HT3.out ((grown_of_below HBT.out _).trans hg) (by omega) w3.heap.size 1 (.int .i64 m) (Nat.le_refl _)); have HR4 := Lib.hid ((HR3.out.grown (grown_of_below HBT.out _) hPl).grown hg hPl); have HZ4 : Hid (w3.heap.size < w4.heap.size) := Lib.hid hT4.lt; clear hk hg hT4)
             | (at_builtin; refine TR.push_ev (w := w4.setCell ⟨w3.heap.size, 1, none⟩ (.int .i64 m)) (N := w4.heap.size) (by simp [World.setCell]) HT4.out rfl (.tmp 36) (.tmp 38) rfl rfl rfl (by have := HR4.out.lt; simp [World.setCell]; omega) (by omega) ?_; intro v5 w5 hr5 hb5; have HT5 := Lib.hid hr5; have HG5 := Lib.hid (grown_onB (grown_setT HG4.out w3.heap.size 1 (.int .i64 m) HG3.out.size) hb5 (Nat.le_succ _)); have HR5 : Hid (PtrAt w5 w.heap.size P) := Lib.hid ((hb5.block _ (Nat.lt_succ_self _)).trans ((Below.heap_setCell w4 _ _ _ (by have := HR3.out.lt; show w.heap.size ≠ w3.heap.size; omega)).trans HR4.out)); have HK5 : Hid (SpotAt w5 P A c b.length q3) := Lib.hid ((hb5.block _ (by omega)).trans ((Below.heap_setCell w4 _ _ _ (by have := HK3.out.lt; show P ≠ w3.heap.size; omega)).trans HK4.out)); clear hr5 hb5))
            go_roundg (N - (i + 1))
            case measure => omega
            case rel => exact ⟨i + 1, q3, ys ++ [⟨1, m, kk / 4, 0⟩], by go_num, by omega, rfl, hq3, by rw [List.length_append, hyl]; rfl, HX2, HT5, HK5, HG5, HR5⟩
        · have hX := HX.out
          rw [HA.out, if_neg (by decide), if_neg (by decide)] at hX
          have HX2 : Hid (X = bnd (rtoks (N - (i + 1)) (b.drop q2)) fun zs l => .ok ((ys ++ [⟨2, 0, kk / 4, 0⟩]) ++ zs, l)) := Lib.hid (by rw [HD.out, ← bnd_snoc]; exact hX)
          have hbt : Below w3.heap.size w3 (w3.alloc (.cells #[.int .i64 2, .int .i64 0, .int .i64 (kk / 4), .int .i64 0] 111)) := (Below.refl _ _).alloc (Nat.le_refl _) _
          have HKT := Lib.hid (HK3.out.grownB hbt HK3.out.lt)
          have HGT := Lib.hid (HG3.out.trans (grown_of_below hbt (some P)))
          have HRT := Lib.hid (HR3.out.grown (grown_of_below hbt _) hPl)
          have HTT := Lib.hid (HT3.out.grown (grown_of_below hbt (some P)) (by omega))
          have HZT : Hid (w.heap.size + 1 ≤ (w3.alloc (.cells #[.int .i64 2, .int .i64 0, .int .i64 (kk / 4), .int .i64 0] 111)).heap.size) := Lib.hid HRT.out.lt
          clear hX hbt HX HN
          go_wp2_with (at_builtin; refine TR.push_ev (w := w3.alloc (.cells #[.int .i64 2, .int .i64 0, .int .i64 (kk / 4), .int .i64 0] 111)) (N := w3.heap.size + 1) (World.size_alloc _ _) HTT.out rfl (.tmp 36) (.tmp 38) rfl rfl rfl HZT.out (by omega) ?_; intro v5 w5 hr5 hb5; have HT5 := Lib.hid hr5; have HG5 := Lib.hid (grown_onB HGT.out hb5 (Nat.le_succ _)); have HR5 : Hid (PtrAt w5 w.heap.size P) := Lib.hid ((hb5.block _ (Nat.lt_succ_self _)).trans HRT.out); have HK5 : Hid (SpotAt w5 P A c b.length q2) := Lib.hid ((hb5.block _ (by omega)).trans HKT.out); clear hr5 hb5)
          go_roundg (N - (i + 1))
          case measure => omega
          case rel => exact ⟨i + 1, q2, ys ++ [⟨2, 0, kk / 4, 0⟩], by go_num, by omega, rfl, hq2, by rw [List.length_append, hyl]; rfl, HX2, HT5, HK5, HG5, HR5⟩
        · have hX := HX.out
          rw [HA.out, if_neg (by decide), if_pos (by decide)] at hX
          have hbt : Below w3.heap.size w3 (w3.alloc (.cells #[.int .i64 3, .int .i64 0, .int .i64 (kk / 4), .int .i64 0] 111)) := (Below.refl _ _).alloc (Nat.le_refl _) _
          have HTK : Hid (TokAt (w3.alloc (.cells #[.int .i64 3, .int .i64 0, .int .i64 (kk / 4), .int .i64 0] 111)) w3.heap.size ⟨3, 0, kk / 4, 0⟩) := Lib.hid (World.alloc_heap_new w3 _)
          have hGt : w.grownBy (w3.alloc (.cells #[.int .i64 3, .int .i64 0, .int .i64 (kk / 4), .int .i64 0] 111)) (some P) := HG3.out.trans (grown_of_below hbt _)
          have hKt := HK3.out.grownB hbt HK3.out.lt
          have rt := (HR3.out.grown (grown_of_below hbt _) hPl).c0
          have hCt := HG0.out _ hGt
          have HGT := Lib.hid hGt
          have HBT := Lib.hid hbt
          rcases hres : rnum 2147483647 (b.drop q2) with f | ⟨m, r⟩
          · rw [hres] at hX
            have HN2 := Lib.hid (snum_err hKt hCt hc HBB.out hq2 2147483647 (by decide) (by decide) f hres)
            have HX2 := Lib.hid (show X = .error f from hX)
            clear hres hX hbt hGt hKt hCt HX HTK
            go_wp2_with (go_at_call 131; refine HN2.out.mono ?_; rintro e w4 ⟨rfl, hg⟩; have HG4 := Lib.hid (HGT.out.trans hg); clear hg)
            exact ⟨rfl, RdP.err HX2.out HG4.out⟩
          · obtain ⟨q3, hq3, rfl, hql3, hm0, hm1⟩ := rnum_rest HBB.out hq2 hres
            have hN2 := snum_ok hKt hCt hc HBB.out hq2 2147483647 (by decide) (by decide) m _ hres
            rw [hql3] at hN2
            rw [hres] at hX
            have HN2 := Lib.hid hN2
            have HX2 : Hid (X = bnd (rtoks (N - (i + 1)) (b.drop q3)) fun zs l => .ok ((ys ++ [⟨3, m, kk / 4, 0⟩]) ++ zs, l)) := Lib.hid (by rw [HD.out, ← bnd_snoc]; exact hX)
            clear hres hX hbt hGt hKt hCt hN2 HX HN
            go_wp2_with (first
             | (go_at_call 131; refine HN2.out.mono ?_; rintro e w4 ⟨rfl, hk, hg⟩; have HK4 := Lib.hid hk; have hT4 : TokAt w4 w3.heap.size ⟨3, 0, kk / 4, 0⟩ := (hg.block _ HTK.out.lt (by intro e; have e2 := Option.some.inj e; have := HK3.out.lt; omega)).trans HTK.out; have d0 := hT4.c0; have d1 := hT4.c1; have d2 := hT4.c2; have d3 := hT4.c3; have df := hT4.f 1; have HG4 := Lib.hid (HGT.out.trans hg); have HT4 := Lib.hid (TR.over HT3.out ((grown_of_below HBT.out _).trans hg) (by omega) w3.heap.size 1 (.int .i64 m) (Nat.le_refl _)); have HR4 := Lib.hid ((HR3.out.grown (grown_of_below HBT.out _) hPl).grown hg hPl); have HZ4 : Hid (w3.heap.size < w4.heap.size) := Lib.hid hT4.lt; clear hk hg hT4)
             | (at_builtin; refine TR.push_ev (w := w4.setCell ⟨w3.heap.size, 1, none⟩ (.int .i64 m)) (N := w4.heap.size) (by simp [World.setCell]) HT4.out rfl (.tmp 36) (.tmp 38) rfl rfl rfl (by have := HR4.out.lt; simp [World.setCell]; omega) (by omega) ?_; intro v5 w5 hr5 hb5; have HT5 := Lib.hid hr5; have HG5 := Lib.hid (grown_onB (grown_setT HG4.out w3.heap.size 1 (.int .i64 m) HG3.out.size) hb5 (Nat.le_succ _)); have HR5 : Hid (PtrAt w5 w.heap.size P) := Lib.hid ((hb5.block _ (Nat.lt_succ_self _)).trans ((Below.heap_setCell w4 _ _ _ (by have := HR3.out.lt; show w.heap.size ≠ w3.heap.size; omega)).trans HR4.out)); have HK5 : Hid (SpotAt w5 P A c b.length q3) := Lib.hid ((hb5.block _ (by omega)).trans ((Below.heap_setCell w4 _ _ _ (by have := HK3.out.lt; show P ≠ w3.heap.size; omega)).trans HK4.out)); clear hr5 hb5))
            go_roundg (N - (i + 1))
            case measure => omega
            case rel => exact ⟨i + 1, q3, ys ++ [⟨3, m, kk / 4, 0⟩], by go_num, by omega, rfl, hq3, by rw [List.length_append, hyl]; rfl, HX2, HT5, HK5, HG5, HR5⟩
    · obtain rfl : i = N := by omega
      have hX := HX.out
      rw [Nat.sub_self, rtoks, bnd_ok, List.append_nil] at hX
      have HXX := Lib.hid hX
      clear hX HX
      go_wp2
      go_ret
      exact RdP.ok HXX.out HG.out (Kd.R_lower HT.out (Nat.le_succ _)) HK.out (by rw [List.length_drop]; omega)
end Go.Proofs.Ytmbnjgnmblgjoaa.Man
end
section
namespace Go.Proofs.Ytmbnjgnmblgjoaa.Man
open Go.RowKit Go.Proofs.YtmbnjgnmblgjoaaW.PrintWords Go.Proofs.YtmbnjgnmblgjoaaW.PrintLast Go.Proofs.YtmbnjgnmblgjoaaW.PrintMore
set_option linter.unusedVariables false
set_option linter.unusedSimpArgs false
set_option maxRecDepth 100000
theorem goesP_ {P : Program} {ops : Array Oper} {Q : Exit → Act → World → Prop} {oi : Oper} {N : Option Tmp} {a : Act} {w : World} {K : Act → World → Prop} {f : FuncId} {fn : Func} {ags : Array Operand} {ts : Array TypeId} (hf : P.funcs[f]? = some fn) (hname : (fn.name == "runtime.NumGoroutine") = false) (hb : fn.body.isSome = true) (args : Array Value)
 (hw : Region.wanted oi (yielded ops a.tmps) = true) (hN : oi.dst = N) (hop : oi.op = .call { callee := .value (.func f), args := ags, argTypes := ts }) (hargs : ags.map a.eval = args)
 (h : Calls P f args w fun e w' => (∃ v, e = .returned v ∧ K (a.put N v) w') ∨ ∃ ch, e = .panicked ch ∧ Q (.panic ch) a w') : if Region.wanted oi (yielded ops a.tmps) = true then Oper.wp P oi a w K Q else K (a.put N undef) w := by
 have he := enters_ hf hname hb args w
 have hrun : (execOp a.eval oi).run P w = .ok (.enter f args) w := by
  unfold execOp
  simp [hop, resolve, Deferred.ofValue, invoke, Act.eval, hargs, he]
 rw [if_pos hw]
 subst hN
 unfold Oper.wp
 rw [hrun, Oper.upon_enter]
 refine h.mono fun e w'' hh => ?_
 rcases hh with ⟨v, rfl, hk⟩ | ⟨ch, rfl, hk⟩
 · exact hk
 · exact hk
def EntC (w : World) (E : Nat) (a0 a1 a2 a3 a4 a5 a6 a7 : Int) (v : Value) (a9 : Int) : Prop := w.heap[E]? = some (.cells #[.int .i64 a0, .int .i64 a1, .int .i64 a2, .int .i64 a3, .int .i64 a4, .int .i64 a5, .int .i64 a6, .int .i64 a7, v, .int .i64 a9] 26 (0, 0))
structure EnS (w W : World) (P : Nat) (A : Option Addr) (c n q : Nat) (a0 a1 a2 a3 a4 a5 a6 a7 : Int) (v : Value) (a9 : Int) : Prop where
 spot : SpotAt W P A c n q
 ptr : PtrAt W w.heap.size P
 ent : EntC W (w.heap.size + 1) a0 a1 a2 a3 a4 a5 a6 a7 v a9
 grown : w.grownBy W (some P)
section
variable {w W W' : World} {P c n q q' : Nat} {A : Option Addr} {a0 a1 a2 a3 a4 a5 a6 a7 a9 : Int} {v : Value}
theorem EnS.size (h : EnS w W P A c n q a0 a1 a2 a3 a4 a5 a6 a7 v a9) : w.heap.size + 2 ≤ W.heap.size := (Array.getElem?_eq_some_iff.1 h.ent).1
theorem EnS.num (h : EnS w W P A c n q a0 a1 a2 a3 a4 a5 a6 a7 v a9) (hP : P < w.heap.size) (hk : SpotAt W' P A c n q') (hg : W.grownBy W' (some P)) : EnS w W' P A c n q' a0 a1 a2 a3 a4 a5 a6 a7 v a9 :=
 ⟨hk, h.ptr.grown hg hP, (hg.block _ (Array.getElem?_eq_some_iff.1 h.ent).1 (by intro e; have e2 := Option.some.inj e; omega)).trans h.ent, h.grown.trans hg⟩
theorem EnS.below (h : EnS w W P A c n q a0 a1 a2 a3 a4 a5 a6 a7 v a9) (hP : P < w.heap.size) (hb : Below W.heap.size W W') : EnS w W' P A c n q a0 a1 a2 a3 a4 a5 a6 a7 v a9 :=
 h.num hP (h.spot.below hb h.spot.lt) (grown_of_below hb _)
theorem EnS.drew (h : EnS w W P A c n q a0 a1 a2 a3 a4 a5 a6 a7 v a9) (hP : P < w.heap.size) : EnS w W.drew P A c n q a0 a1 a2 a3 a4 a5 a6 a7 v a9 := h.below hP (below_drew1 (Below.refl _ _))
theorem EnS.f (h : EnS w W P A c n q a0 a1 a2 a3 a4 a5 a6 a7 v a9) (i : Nat) : W.frozen? ⟨w.heap.size + 1, i, none⟩ = false := by simp [World.frozen?, show W.heap[w.heap.size + 1]? = _ from h.ent]
theorem EnS.put (h : EnS w W P A c n q a0 a1 a2 a3 a4 a5 a6 a7 v a9) (hP : P < w.heap.size) (i : Nat) (u : Value) {b0 b1 b2 b3 b4 b5 b6 b7 b9 : Int} {v' : Value}
 (he : (#[.int .i64 a0, .int .i64 a1, .int .i64 a2, .int .i64 a3, .int .i64 a4, .int .i64 a5, .int .i64 a6, .int .i64 a7, v, .int .i64 a9] : Array Value).setIfInBounds i u = #[.int .i64 b0, .int .i64 b1, .int .i64 b2, .int .i64 b3, .int .i64 b4, .int .i64 b5, .int .i64 b6, .int .i64 b7, v', .int .i64 b9]) :
 EnS w (W.setCell ⟨w.heap.size + 1, i, none⟩ u) P A c n q b0 b1 b2 b3 b4 b5 b6 b7 v' b9 := by
 refine ⟨(Below.heap_setCell W _ _ _ (by show P ≠ w.heap.size + 1; omega)).trans h.spot, (Below.heap_setCell W _ _ _ (by show w.heap.size ≠ w.heap.size + 1; omega)).trans h.ptr, ?_, grown_setT h.grown _ _ _ (Nat.le_succ _)⟩
 unfold EntC World.setCell
 have h1 := h.ent
 unfold EntC at h1
 have he2 := congrArg Array.toList he
 simp [Array.getElem?_modify, h1]
 simpa using he2
theorem EnS.c0 (h : EnS w W P A c n q a0 a1 a2 a3 a4 a5 a6 a7 v a9) : W.cell? ⟨w.heap.size + 1, 0, none⟩ = some (.int .i64 a0) := by simp [World.cell?, show W.heap[w.heap.size + 1]? = _ from h.ent]
theorem EnS.c1 (h : EnS w W P A c n q a0 a1 a2 a3 a4 a5 a6 a7 v a9) : W.cell? ⟨w.heap.size + 1, 1, none⟩ = some (.int .i64 a1) := by simp [World.cell?, show W.heap[w.heap.size + 1]? = _ from h.ent]
theorem EnS.c2 (h : EnS w W P A c n q a0 a1 a2 a3 a4 a5 a6 a7 v a9) : W.cell? ⟨w.heap.size + 1, 2, none⟩ = some (.int .i64 a2) := by simp [World.cell?, show W.heap[w.heap.size + 1]? = _ from h.ent]
theorem EnS.c3 (h : EnS w W P A c n q a0 a1 a2 a3 a4 a5 a6 a7 v a9) : W.cell? ⟨w.heap.size + 1, 3, none⟩ = some (.int .i64 a3) := by simp [World.cell?, show W.heap[w.heap.size + 1]? = _ from h.ent]
theorem EnS.c4 (h : EnS w W P A c n q a0 a1 a2 a3 a4 a5 a6 a7 v a9) : W.cell? ⟨w.heap.size + 1, 4, none⟩ = some (.int .i64 a4) := by simp [World.cell?, show W.heap[w.heap.size + 1]? = _ from h.ent]
theorem EnS.c5 (h : EnS w W P A c n q a0 a1 a2 a3 a4 a5 a6 a7 v a9) : W.cell? ⟨w.heap.size + 1, 5, none⟩ = some (.int .i64 a5) := by simp [World.cell?, show W.heap[w.heap.size + 1]? = _ from h.ent]
theorem EnS.c6 (h : EnS w W P A c n q a0 a1 a2 a3 a4 a5 a6 a7 v a9) : W.cell? ⟨w.heap.size + 1, 6, none⟩ = some (.int .i64 a6) := by simp [World.cell?, show W.heap[w.heap.size + 1]? = _ from h.ent]
theorem EnS.c7 (h : EnS w W P A c n q a0 a1 a2 a3 a4 a5 a6 a7 v a9) : W.cell? ⟨w.heap.size + 1, 7, none⟩ = some (.int .i64 a7) := by simp [World.cell?, show W.heap[w.heap.size + 1]? = _ from h.ent]
theorem EnS.c8 (h : EnS w W P A c n q a0 a1 a2 a3 a4 a5 a6 a7 v a9) : W.cell? ⟨w.heap.size + 1, 8, none⟩ = some (v) := by simp [World.cell?, show W.heap[w.heap.size + 1]? = _ from h.ent]
theorem EnS.c9 (h : EnS w W P A c n q a0 a1 a2 a3 a4 a5 a6 a7 v a9) : W.cell? ⟨w.heap.size + 1, 9, none⟩ = some (.int .i64 a9) := by simp [World.cell?, show W.heap[w.heap.size + 1]? = _ from h.ent]
end
theorem TR.set {w : World} {base E : Nat} {v : Value} {xs : List K.S111} (h : TR w base v xs) (hE : E < base) (k : Nat) (u : Value) : TR (w.setCell ⟨E, k, none⟩ u) base v xs := h.grown (grownBy_set w E k u (World.grownBy.refl w _)) hE
theorem RdP.err_inv {α : Type} {w : World} {P : Nat} {A : Option Addr} {c : Nat} {b : List Int} {ret : α → Value → World → Prop} {f : Int} {e : Ending} {w' : World} (h : RdP w P A c b ret (.error f) e w') : e = .panicked (errCh f) ∧ w.grownBy w' (some P) := ⟨h.2, h.1⟩
theorem RdP.ok_inv {α : Type} {w : World} {P : Nat} {A : Option Addr} {c : Nat} {b : List Int} {ret : α → Value → World → Prop} {x : α} {r : List Int} {e : Ending} {w' : World} (h : RdP w P A c b ret (.ok (x, r)) e w') : ∃ v, e = .returned v ∧ ret x v w' ∧ SpotAt w' P A c b.length (b.length - r.length) ∧ w.grownBy w' (some P) := by
 obtain ⟨hg, v, he, hv, hs⟩ := h
 exact ⟨v, he, hv, hs, hg⟩
def EntR (base : Nat) (x : K.S26) (r : Value) (w' : World) : Prop := ∃ u, r = .agg #[.int .i64 x.f0, .int .i64 x.f1, .int .i64 x.f2.f0, .int .i64 x.f2.f1, .int .i64 x.f2.f2, .int .i64 x.f2.f3, .int .i64 x.f2.f4, .int .i64 x.f2.f5, u, .int .i64 x.f2.f7] ∧ TR w' base u x.f2.f6
def entR1.T : Bool × List (List Nat × List Nat) := (true, [([], []), ([0], [0]), ([1], [1]), ([], []), ([3], [3]), ([4, 2], [4]), ([0, 1, 2, 5], []), ([6, 2, 5, 0, 1, 2, 5], [2, 6]), ([0, 1, 2, 3, 4, 5, 6, 7], []), ([8, 5, 7, 0, 1, 2, 3, 4, 5, 6, 7], [5, 8])])
def entR1.B : List Nat := [0, 1, 3, 0, 8, 31, 63, 127, 255, 511]
theorem entR1.tab : rtab .any (opsOf Try.f94 1) = entR1.T := by kernel_rfl
theorem entR1.bits : waitsOk entR1.T.2 entR1.B = true := by kernel_rfl
def entR3.T : Bool × List (List Nat × List Nat) := (true, [([], []), ([], []), ([], []), ([], []), ([3], [3]), ([4], [4]), ([], []), ([6], [6]), ([7, 5], [7]), ([], []), ([9], [9]), ([10, 8], [10]), ([0, 0, 3, 4, 5, 8, 11], [0]), ([12, 0, 3, 4, 5, 8, 11], [12]), ([13, 5, 11, 0, 3, 4, 5, 8, 11], [5, 13]), ([1, 0, 1, 3, 4, 5, 6, 7, 8, 11, 12, 13, 14], [1]), ([15, 0, 1, 3, 4, 5, 6, 7, 8, 11, 12, 13, 14], [15]), ([16, 8, 14, 0, 1, 3, 4, 5, 6, 7, 8, 11, 12, 13, 14], [8, 16]), ([2, 0, 1, 2, 3, 4, 5, 6, 7, 8, 9, 10, 11, 12, 13, 14, 15, 16, 17], [2]), ([18, 0, 1, 2, 3, 4, 5, 6, 7, 8, 9, 10, 11, 12, 13, 14, 15, 16, 17], [18]), ([19, 11, 17, 0, 1, 2, 3, 4, 5, 6, 7, 8, 9, 10, 11, 12, 13, 14, 15, 16, 17], [11, 19])])
def entR3.B : List Nat := [0, 0, 0, 0, 8, 24, 0, 64, 248, 0, 512, 2040, 4089, 8185, 16377, 32763, 65531, 131067, 262143, 524287, 1048575]
theorem entR3.tab : rtab .any (opsOf Try.f94 3) = entR3.T := by kernel_rfl
theorem entR3.bits : waitsOk entR3.T.2 entR3.B = true := by kernel_rfl
def entR10.T : Bool × List (List Nat × List Nat) := (true, [([], []), ([], []), ([], []), ([], []), ([3], [3]), ([4], [4]), ([], []), ([6], [6]), ([7, 5], [7]), ([], []), ([9], [9]), ([10, 8], [10]), ([0, 0, 3, 4, 5, 8, 11], [0]), ([12, 0, 3, 4, 5, 8, 11], [12]), ([13, 5, 11, 0, 3, 4, 5, 8, 11], [5, 13]), ([1, 0, 1, 3, 4, 5, 6, 7, 8, 11, 12, 13, 14], [1]), ([15, 0, 1, 3, 4, 5, 6, 7, 8, 11, 12, 13, 14], [15]), ([16, 8, 14, 0, 1, 3, 4, 5, 6, 7, 8, 11, 12, 13, 14], [8, 16]), ([2, 0, 1, 2, 3, 4, 5, 6, 7, 8, 9, 10, 11, 12, 13, 14, 15, 16, 17], [2]), ([18, 0, 1, 2, 3, 4, 5, 6, 7, 8, 9, 10, 11, 12, 13, 14, 15, 16, 17], [18]), ([19, 11, 17, 0, 1, 2, 3, 4, 5, 6, 7, 8, 9, 10, 11, 12, 13, 14, 15, 16, 17], [11, 19])])
def entR10.B : List Nat := [0, 0, 0, 0, 8, 24, 0, 64, 248, 0, 512, 2040, 4089, 8185, 16377, 32763, 65531, 131067, 262143, 524287, 1048575]
theorem entR10.tab : rtab .any (opsOf Try.f94 10) = entR10.T := by kernel_rfl
theorem entR10.bits : waitsOk entR10.T.2 entR10.B = true := by kernel_rfl
set_option maxHeartbeats 16000000 in
theorem sent_is {w0 w : World} {P c p : Nat} {A : Option Addr} {b : List Int} (hC : Kd.C (Kd.int .u8) w0 A b.length b) (hc : b.length ≤ c) (hB : areBytesN b = true) (hb : Below w0.heap.size w0 w) (hP : w0.heap.size ≤ P) (k : SpotAt w P A c b.length p) (hp : p ≤ b.length) :
 Calls Try.prog 94 #[.agg #[.pointer (some ⟨P, 0, none⟩)]] w (RdP w P A c b (EntR w.heap.size) (rent (b.drop p))) := by
 have hPl := k.lt
 obtain ⟨w2, hw2⟩ : ∃ w2, w2 = (w.alloc (.cells #[.pointer (some ⟨P, 0, none⟩)] 140)).alloc (.cells #[.int .i64 0, .int .i64 0, .int .i64 0, .int .i64 0, .int .i64 0, .int .i64 0, .int .i64 0, .int .i64 0, .slice none 0 0, .int .i64 0] 26) := ⟨_, rfl⟩
 have hb2 : Below w.heap.size w w2 := by rw [hw2]; exact ((Below.refl _ _).alloc (Nat.le_refl _) _).alloc (by simp) _
 have hE2 : EnS w w2 P A c b.length p 0 0 0 0 0 0 0 0 (.slice none 0 0) 0 := by
  refine ⟨k.below hb2 hPl, ?_, ?_, grown_of_below hb2 _⟩
  · rw [hw2]; exact (Below.heap_alloc _ _ _ (by simp)).trans (World.alloc_heap_new w _)
  · rw [hw2]
    have := World.alloc_heap_new (w.alloc (.cells #[.pointer (some ⟨P, 0, none⟩)] 140)) (.cells #[.int .i64 0, .int .i64 0, .int .i64 0, .int .i64 0, .int .i64 0, .int .i64 0, .int .i64 0, .int .i64 0, .slice none 0 0, .int .i64 0] 26)
    rwa [World.size_alloc] at this
 have HG0 := Lib.hid (fun (W : World) (hg : w.grownBy W (some P)) => Kd.C_below hC (below_of_grown hb hg hP))
 have HBB := Lib.hid hB
 have HC := Lib.hid hC
 have HB0 := Lib.hid hb
 obtain ⟨X, hX⟩ : ∃ X, rent (b.drop p) = X := ⟨_, rfl⟩
 rw [hX]
 unfold rent most at hX
 have HX0 := Lib.hid hX.symm
 have HE2 := Lib.hid (hE2.drew hPl)
 have HW2 := Lib.hid hw2
 clear hC hB hb k hX hb2 hE2
 go_enter Try.func94, Try.ntmps94
 go_upto_region 1 with (fail)
 rw [← HW2.out]
 clear hw2
 refine start_ (n := 10) (S := fun w' => w'.cell? ⟨w.heap.size, 0, none⟩ = some (.pointer (some ⟨P, 0, none⟩))) (ds := []) #[false, false, false, false, false, false, false, false, false, false] (by kernel_rfl) rfl rfl HE2.out.ptr.c0 (fun hHeld => ?_); refine with_tabW entR1.tab entR1.bits (fun HT_ HW_ => ?_)
 refine pure_ (i := 0) (N := (some 4)) (v := ?_) (a' := ?_) #[true, false, false, false, false, false, false, false, false, false] rfl rfl (any_of HT_.out (by kernel_rfl)) (fun _ _ _ h => h) (Or.inl ⟨by rfl, ?_⟩) ?_ ?_
 rotate_left
 · intro w'
   go_simp
   with_reducible rfl
 rotate_left
 · simp only [Act.put, sA_, sB_, sC_, i64_w, i32_w]
   rfl
 refine pure_ (i := 3) (N := (some 7)) (v := ?_) (a' := ?_) #[true, false, false, true, false, false, false, false, false, false] rfl rfl (any_of HT_.out (by kernel_rfl)) (fun _ _ _ h => h) (Or.inl ⟨by rfl, ?_⟩) ?_ ?_
 rotate_left
 · intro w'
   go_simp
   with_reducible rfl
 rotate_left
 · simp only [Act.put, sA_, sB_, sC_, i64_w, i32_w]
   rfl
 refine take_ (i := 1) (N := (some 5)) (v := ?_) (a' := ?_) #[true, true, false, true, false, false, false, false, false, false] rfl rfl (take_ofW HT_.out HW_.out (by kernel_rfl)) (fun _ _ _ h => h) (Or.inl ⟨by rfl, ?_⟩) hHeld ?_ ?_
 rotate_left
 · rintro w' s0
   go_simp
   with_reducible rfl
 rotate_left
 · simp only [Act.put, sA_, sB_, sC_, i64_w, i32_w]
   rfl
 refine take_ (i := 4) (N := (some 8)) (v := ?_) (a' := ?_) #[true, true, false, true, true, false, false, false, false, false] rfl rfl (take_ofW HT_.out HW_.out (by kernel_rfl)) (fun _ _ _ h => h) (Or.inl ⟨by rfl, ?_⟩) hHeld ?_ ?_
 rotate_left
 · rintro w' s0
   go_simp
   with_reducible rfl
 rotate_left
 · simp only [Act.put, sA_, sB_, sC_, i64_w, i32_w]
   rfl
 refine one_ (i := 2) (N := (some 6)) #[true, true, true, true, true, false, false, false, false, false] rfl rfl (one_of HT_.out (by kernel_rfl)) (by decide) (fun K hK => ?_)
 have hX := HX0.out
 rcases hres : rnum 2147483647 (b.drop p) with f | ⟨who, r⟩
 · rw [hres, bnd_err] at hX
   refine goesP_ Try.func131 (by kernel_rfl) rfl #[.pointer (some ⟨P, 0, none⟩), .int .i64 2147483647] (by rfl) rfl rfl (by (try simp only [List.map_toArray, List.map_cons, List.map_nil]); first | done | rfl) ?_
   refine (snum_err HE2.out.spot (HG0.out _ HE2.out.grown) hc HBB.out hp 2147483647 (by decide) (by decide) f hres).mono ?_
   rintro e w' ⟨rfl, hg⟩
   exact .inr ⟨_, rfl, And.intro rfl (RdP.err hX (HE2.out.grown.trans hg))⟩
 obtain ⟨q1, hq1, rfl, hql, hn0who, hn1who⟩ := rnum_rest HBB.out hp hres
 rw [hres, bnd_ok] at hX
 have HX1 := Lib.hid hX
 refine goesP_ Try.func131 (by kernel_rfl) rfl #[.pointer (some ⟨P, 0, none⟩), .int .i64 2147483647] (by rfl) rfl rfl (by (try simp only [List.map_toArray, List.map_cons, List.map_nil]); first | done | rfl) ?_
 refine (snum_ok HE2.out.spot (HG0.out _ HE2.out.grown) hc HBB.out hp 2147483647 (by decide) (by decide) who _ hres).mono ?_
 rintro e v3 ⟨rfl, hk, hg⟩
 rw [hql] at hk
 have HE3 := Lib.hid (HE2.out.num hPl hk hg)
 clear hk hg hres hX hql HX0 HE2
 refine .inl ⟨_, rfl, ?_⟩
 refine hK.out _ _ HE3.out.ptr.c0 (fun hHeld => ?_)
 clear hK K
 refine norm_ (a' := ?_) ?_ ?_
 rotate_left
 · show Act.put _ (some 6) _ = _
   simp only [Act.put, sA_, sB_, sC_, i64_w, i32_w]
   rfl
 refine one_ (i := 5) (N := (some 9)) #[true, true, true, true, true, true, false, false, false, false] rfl rfl (one_of HT_.out (by kernel_rfl)) (by decide) (fun K hK => ?_)
 have hX := HX1.out
 rcases hres : rnum 2147483647 (b.drop q1) with f | ⟨seq, r⟩
 · rw [hres, bnd_err] at hX
   refine goesP_ Try.func131 (by kernel_rfl) rfl #[.pointer (some ⟨P, 0, none⟩), .int .i64 2147483647] (by rfl) rfl rfl (by (try simp only [List.map_toArray, List.map_cons, List.map_nil]); first | done | rfl) ?_
   refine (snum_err HE3.out.spot (HG0.out _ HE3.out.grown) hc HBB.out hq1 2147483647 (by decide) (by decide) f hres).mono ?_
   rintro e w' ⟨rfl, hg⟩
   exact .inr ⟨_, rfl, And.intro rfl (RdP.err hX (HE3.out.grown.trans hg))⟩
 obtain ⟨q2, hq2, rfl, hql, hn0seq, hn1seq⟩ := rnum_rest HBB.out hq1 hres
 rw [hres, bnd_ok] at hX
 have HX2 := Lib.hid hX
 refine goesP_ Try.func131 (by kernel_rfl) rfl #[.pointer (some ⟨P, 0, none⟩), .int .i64 2147483647] (by rfl) rfl rfl (by (try simp only [List.map_toArray, List.map_cons, List.map_nil]); first | done | rfl) ?_
 refine (snum_ok HE3.out.spot (HG0.out _ HE3.out.grown) hc HBB.out hq1 2147483647 (by decide) (by decide) seq _ hres).mono ?_
 rintro e v4 ⟨rfl, hk, hg⟩
 rw [hql] at hk
 have HE4 := Lib.hid (HE3.out.num hPl hk hg)
 clear hk hg hres hX hql HX1 HE3
 refine .inl ⟨_, rfl, ?_⟩
 refine hK.out _ _ HE4.out.ptr.c0 (fun hHeld => ?_)
 clear hK K
 refine norm_ (a' := ?_) ?_ ?_
 rotate_left
 · show Act.put _ (some 9) _ = _
   simp only [Act.put, sA_, sB_, sC_, i64_w, i32_w]
   rfl
 refine pure_ (i := 6) (N := (some 10)) (v := ?_) (a' := ?_) #[true, true, true, true, true, true, true, false, false, false] rfl rfl (any_of HT_.out (by kernel_rfl)) (fun _ _ _ h => h) (Or.inl ⟨by rfl, ?_⟩) ?_ ?_
 rotate_left
 · intro w'
   go_simp
   with_reducible rfl
 rotate_left
 · simp only [Act.put, sA_, sB_, sC_, i64_w, i32_w]
   rfl
 refine one_ (i := 7) (N := none) #[true, true, true, true, true, true, true, true, false, false] rfl rfl (one_of HT_.out (by kernel_rfl)) (by decide) (fun K hK => ?_)
 have hcc := HE4.out.c0
 have hff := HE4.out.f 0
 refine skip_ (w1 := (v4.setCell ⟨w.heap.size + 1, 0, none⟩ (.int .i64 who))) (by rfl) rfl ?_ ?_
 · go_simp
   try rfl
 have HE5 : Hid (EnS w (v4.setCell ⟨w.heap.size + 1, 0, none⟩ (.int .i64 who)) P A c b.length q2 who 0 0 0 0 0 0 0 (.slice none 0 0) 0) := Lib.hid (HE4.out.put hPl 0 (.int .i64 who) rfl)
 clear hcc hff HE4
 refine hK.out _ _ HE5.out.ptr.c0 (fun hHeld => ?_)
 clear hK K
 refine pure_ (i := 8) (N := (some 11)) (v := ?_) (a' := ?_) #[true, true, true, true, true, true, true, true, true, false] rfl rfl (any_of HT_.out (by kernel_rfl)) (fun _ _ _ h => h) (Or.inl ⟨by rfl, ?_⟩) ?_ ?_
 rotate_left
 · intro w'
   go_simp
   with_reducible rfl
 rotate_left
 · simp only [Act.put, sA_, sB_, sC_, i64_w, i32_w]
   rfl
 refine one_ (i := 9) (N := none) #[true, true, true, true, true, true, true, true, true, true] rfl rfl (one_of HT_.out (by kernel_rfl)) (by decide) (fun K hK => ?_)
 have hcc := HE5.out.c1
 have hff := HE5.out.f 1
 refine skip_ (w1 := ((v4.setCell ⟨w.heap.size + 1, 0, none⟩ (.int .i64 who)).setCell ⟨w.heap.size + 1, 1, none⟩ (.int .i64 seq))) (by rfl) rfl ?_ ?_
 · go_simp
   try rfl
 have HE6 : Hid (EnS w ((v4.setCell ⟨w.heap.size + 1, 0, none⟩ (.int .i64 who)).setCell ⟨w.heap.size + 1, 1, none⟩ (.int .i64 seq)) P A c b.length q2 who seq 0 0 0 0 0 0 (.slice none 0 0) 0) := Lib.hid (HE5.out.put hPl 1 (.int .i64 seq) rfl)
 clear hcc hff HE5
 refine hK.out _ _ HE6.out.ptr.c0 (fun hHeld => ?_)
 clear hK K
 refine done_ (done_of HT_.out (by kernel_rfl)) ?_
 go_upto_region 3 with (fail)
 have HE7 := Lib.hid (HE6.out.drew hPl)
 refine start_ (n := 21) (S := fun w' => w'.cell? ⟨w.heap.size, 0, none⟩ = some (.pointer (some ⟨P, 0, none⟩))) (ds := []) #[false, false, false, false, false, false, false, false, false, false, false, false, false, false, false, false, false, false, false, false, false] (by kernel_rfl) rfl rfl HE7.out.ptr.c0 (fun hHeld => ?_); refine with_tabW entR3.tab entR3.bits (fun HT_ HW_ => ?_)
 refine pure_ (i := 0) (N := (some 13)) (v := ?_) (a' := ?_) #[true, false, false, false, false, false, false, false, false, false, false, false, false, false, false, false, false, false, false, false, false] rfl rfl (any_of HT_.out (by kernel_rfl)) (fun _ _ _ h => h) (Or.inl ⟨by rfl, ?_⟩) ?_ ?_
 rotate_left
 · intro w'
   go_simp
   with_reducible rfl
 rotate_left
 · simp only [Act.put, sA_, sB_, sC_, i64_w, i32_w]
   rfl
 refine pure_ (i := 1) (N := (some 14)) (v := ?_) (a' := ?_) #[true, true, false, false, false, false, false, false, false, false, false, false, false, false, false, false, false, false, false, false, false] rfl rfl (any_of HT_.out (by kernel_rfl)) (fun _ _ _ h => h) (Or.inl ⟨by rfl, ?_⟩) ?_ ?_
 rotate_left
 · intro w'
   go_simp
   with_reducible rfl
 rotate_left
 · simp only [Act.put, sA_, sB_, sC_, i64_w, i32_w]
   rfl
 refine pure_ (i := 2) (N := (some 15)) (v := ?_) (a' := ?_) #[true, true, true, false, false, false, false, false, false, false, false, false, false, false, false, false, false, false, false, false, false] rfl rfl (any_of HT_.out (by kernel_rfl)) (fun _ _ _ h => h) (Or.inl ⟨by rfl, ?_⟩) ?_ ?_
 rotate_left
 · intro w'
   go_simp
   with_reducible rfl
 rotate_left
 · simp only [Act.put, sA_, sB_, sC_, i64_w, i32_w]
   rfl
 refine pure_ (i := 3) (N := (some 16)) (v := ?_) (a' := ?_) #[true, true, true, true, false, false, false, false, false, false, false, false, false, false, false, false, false, false, false, false, false] rfl rfl (any_of HT_.out (by kernel_rfl)) (fun _ _ _ h => h) (Or.inl ⟨by rfl, ?_⟩) ?_ ?_
 rotate_left
 · intro w'
   go_simp
   with_reducible rfl
 rotate_left
 · simp only [Act.put, sA_, sB_, sC_, i64_w, i32_w]
   rfl
 refine pure_ (i := 6) (N := (some 19)) (v := ?_) (a' := ?_) #[true, true, true, true, false, false, true, false, false, false, false, false, false, false, false, false, false, false, false, false, false] rfl rfl (any_of HT_.out (by kernel_rfl)) (fun _ _ _ h => h) (Or.inl ⟨by rfl, ?_⟩) ?_ ?_
 rotate_left
 · intro w'
   go_simp
   with_reducible rfl
 rotate_left
 · simp only [Act.put, sA_, sB_, sC_, i64_w, i32_w]
   rfl
 refine pure_ (i := 9) (N := (some 22)) (v := ?_) (a' := ?_) #[true, true, true, true, false, false, true, false, false, true, false, false, false, false, false, false, false, false, false, false, false] rfl rfl (any_of HT_.out (by kernel_rfl)) (fun _ _ _ h => h) (Or.inl ⟨by rfl, ?_⟩) ?_ ?_
 rotate_left
 · intro w'
   go_simp
   with_reducible rfl
 rotate_left
 · simp only [Act.put, sA_, sB_, sC_, i64_w, i32_w]
   rfl
 refine take_ (i := 4) (N := (some 17)) (v := ?_) (a' := ?_) #[true, true, true, true, true, false, true, false, false, true, false, false, false, false, false, false, false, false, false, false, false] rfl rfl (take_ofW HT_.out HW_.out (by kernel_rfl)) (fun _ _ _ h => h) (Or.inl ⟨by rfl, ?_⟩) hHeld ?_ ?_
 rotate_left
 · rintro w' s0
   go_simp
   with_reducible rfl
 rotate_left
 · simp only [Act.put, sA_, sB_, sC_, i64_w, i32_w]
   rfl
 refine take_ (i := 7) (N := (some 20)) (v := ?_) (a' := ?_) #[true, true, true, true, true, false, true, true, false, true, false, false, false, false, false, false, false, false, false, false, false] rfl rfl (take_ofW HT_.out HW_.out (by kernel_rfl)) (fun _ _ _ h => h) (Or.inl ⟨by rfl, ?_⟩) hHeld ?_ ?_
 rotate_left
 · rintro w' s0
   go_simp
   with_reducible rfl
 rotate_left
 · simp only [Act.put, sA_, sB_, sC_, i64_w, i32_w]
   rfl
 refine take_ (i := 10) (N := (some 23)) (v := ?_) (a' := ?_) #[true, true, true, true, true, false, true, true, false, true, true, false, false, false, false, false, false, false, false, false, false] rfl rfl (take_ofW HT_.out HW_.out (by kernel_rfl)) (fun _ _ _ h => h) (Or.inl ⟨by rfl, ?_⟩) hHeld ?_ ?_
 rotate_left
 · rintro w' s0
   go_simp
   with_reducible rfl
 rotate_left
 · simp only [Act.put, sA_, sB_, sC_, i64_w, i32_w]
   rfl
 refine one_ (i := 5) (N := (some 18)) #[true, true, true, true, true, true, true, true, false, true, true, false, false, false, false, false, false, false, false, false, false] rfl rfl (one_of HT_.out (by kernel_rfl)) (by decide) (fun K hK => ?_)
 have hX := HX2.out
 rcases hres : rnum 3 (b.drop q2) with f | ⟨kk, r⟩
 · rw [hres, bnd_err] at hX
   refine goesP_ Try.func131 (by kernel_rfl) rfl #[.pointer (some ⟨P, 0, none⟩), .int .i64 3] (by rfl) rfl rfl (by (try simp only [List.map_toArray, List.map_cons, List.map_nil]); first | done | rfl) ?_
   refine (snum_err HE7.out.spot (HG0.out _ HE7.out.grown) hc HBB.out hq2 3 (by decide) (by decide) f hres).mono ?_
   rintro e w' ⟨rfl, hg⟩
   exact .inr ⟨_, rfl, And.intro rfl (RdP.err hX (HE7.out.grown.trans hg))⟩
 obtain ⟨q3, hq3, rfl, hql, hn0kk, hn1kk⟩ := rnum_rest HBB.out hq2 hres
 rw [hres, bnd_ok] at hX
 have HX3 := Lib.hid hX
 refine goesP_ Try.func131 (by kernel_rfl) rfl #[.pointer (some ⟨P, 0, none⟩), .int .i64 3] (by rfl) rfl rfl (by (try simp only [List.map_toArray, List.map_cons, List.map_nil]); first | done | rfl) ?_
 refine (snum_ok HE7.out.spot (HG0.out _ HE7.out.grown) hc HBB.out hq2 3 (by decide) (by decide) kk _ hres).mono ?_
 rintro e v8 ⟨rfl, hk, hg⟩
 rw [hql] at hk
 have HE8 := Lib.hid (HE7.out.num hPl hk hg)
 clear hk hg hres hX hql HX2 HE7
 refine .inl ⟨_, rfl, ?_⟩
 refine hK.out _ _ HE8.out.ptr.c0 (fun hHeld => ?_)
 clear hK K
 refine norm_ (a' := ?_) ?_ ?_
 rotate_left
 · show Act.put _ (some 18) _ = _
   simp only [Act.put, sA_, sB_, sC_, i64_w, i32_w]
   rfl
 refine one_ (i := 8) (N := (some 21)) #[true, true, true, true, true, true, true, true, true, true, true, false, false, false, false, false, false, false, false, false, false] rfl rfl (one_of HT_.out (by kernel_rfl)) (by decide) (fun K hK => ?_)
 have hX := HX3.out
 rcases hres : rnum 2147483647 (b.drop q3) with f | ⟨fm, r⟩
 · rw [hres, bnd_err] at hX
   refine goesP_ Try.func131 (by kernel_rfl) rfl #[.pointer (some ⟨P, 0, none⟩), .int .i64 2147483647] (by rfl) rfl rfl (by (try simp only [List.map_toArray, List.map_cons, List.map_nil]); first | done | rfl) ?_
   refine (snum_err HE8.out.spot (HG0.out _ HE8.out.grown) hc HBB.out hq3 2147483647 (by decide) (by decide) f hres).mono ?_
   rintro e w' ⟨rfl, hg⟩
   exact .inr ⟨_, rfl, And.intro rfl (RdP.err hX (HE8.out.grown.trans hg))⟩
 obtain ⟨q4, hq4, rfl, hql, hn0fm, hn1fm⟩ := rnum_rest HBB.out hq3 hres
 rw [hres, bnd_ok] at hX
 have HX4 := Lib.hid hX
 refine goesP_ Try.func131 (by kernel_rfl) rfl #[.pointer (some ⟨P, 0, none⟩), .int .i64 2147483647] (by rfl) rfl rfl (by (try simp only [List.map_toArray, List.map_cons, List.map_nil]); first | done | rfl) ?_
 refine (snum_ok HE8.out.spot (HG0.out _ HE8.out.grown) hc HBB.out hq3 2147483647 (by decide) (by decide) fm _ hres).mono ?_
 rintro e v9 ⟨rfl, hk, hg⟩
 rw [hql] at hk
 have HE9 := Lib.hid (HE8.out.num hPl hk hg)
 clear hk hg hres hX hql HX3 HE8
 refine .inl ⟨_, rfl, ?_⟩
 refine hK.out _ _ HE9.out.ptr.c0 (fun hHeld => ?_)
 clear hK K
 refine norm_ (a' := ?_) ?_ ?_
 rotate_left
 · show Act.put _ (some 21) _ = _
   simp only [Act.put, sA_, sB_, sC_, i64_w, i32_w]
   rfl
 refine one_ (i := 11) (N := (some 24)) #[true, true, true, true, true, true, true, true, true, true, true, true, false, false, false, false, false, false, false, false, false] rfl rfl (one_of HT_.out (by kernel_rfl)) (by decide) (fun K hK => ?_)
 have hX := HX4.out
 rcases hres : rnum 2147483647 (b.drop q4) with f | ⟨tt, r⟩
 · rw [hres, bnd_err] at hX
   refine goesP_ Try.func131 (by kernel_rfl) rfl #[.pointer (some ⟨P, 0, none⟩), .int .i64 2147483647] (by rfl) rfl rfl (by (try simp only [List.map_toArray, List.map_cons, List.map_nil]); first | done | rfl) ?_
   refine (snum_err HE9.out.spot (HG0.out _ HE9.out.grown) hc HBB.out hq4 2147483647 (by decide) (by decide) f hres).mono ?_
   rintro e w' ⟨rfl, hg⟩
   exact .inr ⟨_, rfl, And.intro rfl (RdP.err hX (HE9.out.grown.trans hg))⟩
 obtain ⟨q5, hq5, rfl, hql, hn0tt, hn1tt⟩ := rnum_rest HBB.out hq4 hres
 rw [hres, bnd_ok] at hX
 have HX5 := Lib.hid hX
 refine goesP_ Try.func131 (by kernel_rfl) rfl #[.pointer (some ⟨P, 0, none⟩), .int .i64 2147483647] (by rfl) rfl rfl (by (try simp only [List.map_toArray, List.map_cons, List.map_nil]); first | done | rfl) ?_
 refine (snum_ok HE9.out.spot (HG0.out _ HE9.out.grown) hc HBB.out hq4 2147483647 (by decide) (by decide) tt _ hres).mono ?_
 rintro e v10 ⟨rfl, hk, hg⟩
 rw [hql] at hk
 have HE10 := Lib.hid (HE9.out.num hPl hk hg)
 clear hk hg hres hX hql HX4 HE9
 refine .inl ⟨_, rfl, ?_⟩
 refine hK.out _ _ HE10.out.ptr.c0 (fun hHeld => ?_)
 clear hK K
 refine norm_ (a' := ?_) ?_ ?_
 rotate_left
 · show Act.put _ (some 24) _ = _
   simp only [Act.put, sA_, sB_, sC_, i64_w, i32_w]
   rfl
 refine pure_ (i := 12) (N := (some 25)) (v := ?_) (a' := ?_) #[true, true, true, true, true, true, true, true, true, true, true, true, true, false, false, false, false, false, false, false, false] rfl rfl (any_of HT_.out (by kernel_rfl)) (fun _ _ _ h => h) (Or.inl ⟨by rfl, ?_⟩) ?_ ?_
 rotate_left
 · intro w'
   go_simp
   with_reducible rfl
 rotate_left
 · simp only [Act.put, sA_, sB_, sC_, i64_w, i32_w]
   rfl
 refine pure_ (i := 13) (N := (some 26)) (v := ?_) (a' := ?_) #[true, true, true, true, true, true, true, true, true, true, true, true, true, true, false, false, false, false, false, false, false] rfl rfl (any_of HT_.out (by kernel_rfl)) (fun _ _ _ h => h) (Or.inl ⟨by rfl, ?_⟩) ?_ ?_
 rotate_left
 · intro w'
   go_simp
   with_reducible rfl
 rotate_left
 · simp only [Act.put, sA_, sB_, sC_, i64_w, i32_w]
   rfl
 refine one_ (i := 14) (N := none) #[true, true, true, true, true, true, true, true, true, true, true, true, true, true, true, false, false, false, false, false, false] rfl rfl (one_of HT_.out (by kernel_rfl)) (by decide) (fun K hK => ?_)
 have hcc := HE10.out.c2
 have hff := HE10.out.f 2
 refine skip_ (w1 := (v10.setCell ⟨w.heap.size + 1, 2, none⟩ (.int .i64 kk))) (by rfl) rfl ?_ ?_
 · go_simp
   try rfl
 have HE11 : Hid (EnS w (v10.setCell ⟨w.heap.size + 1, 2, none⟩ (.int .i64 kk)) P A c b.length q5 who seq kk 0 0 0 0 0 (.slice none 0 0) 0) := Lib.hid (HE10.out.put hPl 2 (.int .i64 kk) rfl)
 clear hcc hff HE10
 refine hK.out _ _ HE11.out.ptr.c0 (fun hHeld => ?_)
 clear hK K
 refine pure_ (i := 15) (N := (some 27)) (v := ?_) (a' := ?_) #[true, true, true, true, true, true, true, true, true, true, true, true, true, true, true, true, false, false, false, false, false] rfl rfl (any_of HT_.out (by kernel_rfl)) (fun _ _ _ h => h) (Or.inl ⟨by rfl, ?_⟩) ?_ ?_
 rotate_left
 · intro w'
   go_simp
   with_reducible rfl
 rotate_left
 · simp only [Act.put, sA_, sB_, sC_, i64_w, i32_w]
   rfl
 refine pure_ (i := 16) (N := (some 28)) (v := ?_) (a' := ?_) #[true, true, true, true, true, true, true, true, true, true, true, true, true, true, true, true, true, false, false, false, false] rfl rfl (any_of HT_.out (by kernel_rfl)) (fun _ _ _ h => h) (Or.inl ⟨by rfl, ?_⟩) ?_ ?_
 rotate_left
 · intro w'
   go_simp
   with_reducible rfl
 rotate_left
 · simp only [Act.put, sA_, sB_, sC_, i64_w, i32_w]
   rfl
 refine one_ (i := 17) (N := none) #[true, true, true, true, true, true, true, true, true, true, true, true, true, true, true, true, true, true, false, false, false] rfl rfl (one_of HT_.out (by kernel_rfl)) (by decide) (fun K hK => ?_)
 have hcc := HE11.out.c3
 have hff := HE11.out.f 3
 refine skip_ (w1 := ((v10.setCell ⟨w.heap.size + 1, 2, none⟩ (.int .i64 kk)).setCell ⟨w.heap.size + 1, 3, none⟩ (.int .i64 fm))) (by rfl) rfl ?_ ?_
 · go_simp
   try rfl
 have HE12 : Hid (EnS w ((v10.setCell ⟨w.heap.size + 1, 2, none⟩ (.int .i64 kk)).setCell ⟨w.heap.size + 1, 3, none⟩ (.int .i64 fm)) P A c b.length q5 who seq kk fm 0 0 0 0 (.slice none 0 0) 0) := Lib.hid (HE11.out.put hPl 3 (.int .i64 fm) rfl)
 clear hcc hff HE11
 refine hK.out _ _ HE12.out.ptr.c0 (fun hHeld => ?_)
 clear hK K
 refine pure_ (i := 18) (N := (some 29)) (v := ?_) (a' := ?_) #[true, true, true, true, true, true, true, true, true, true, true, true, true, true, true, true, true, true, true, false, false] rfl rfl (any_of HT_.out (by kernel_rfl)) (fun _ _ _ h => h) (Or.inl ⟨by rfl, ?_⟩) ?_ ?_
 rotate_left
 · intro w'
   go_simp
   with_reducible rfl
 rotate_left
 · simp only [Act.put, sA_, sB_, sC_, i64_w, i32_w]
   rfl
 refine pure_ (i := 19) (N := (some 30)) (v := ?_) (a' := ?_) #[true, true, true, true, true, true, true, true, true, true, true, true, true, true, true, true, true, true, true, true, false] rfl rfl (any_of HT_.out (by kernel_rfl)) (fun _ _ _ h => h) (Or.inl ⟨by rfl, ?_⟩) ?_ ?_
 rotate_left
 · intro w'
   go_simp
   with_reducible rfl
 rotate_left
 · simp only [Act.put, sA_, sB_, sC_, i64_w, i32_w]
   rfl
 refine one_ (i := 20) (N := none) #[true, true, true, true, true, true, true, true, true, true, true, true, true, true, true, true, true, true, true, true, true] rfl rfl (one_of HT_.out (by kernel_rfl)) (by decide) (fun K hK => ?_)
 have hcc := HE12.out.c4
 have hff := HE12.out.f 4
 refine skip_ (w1 := (((v10.setCell ⟨w.heap.size + 1, 2, none⟩ (.int .i64 kk)).setCell ⟨w.heap.size + 1, 3, none⟩ (.int .i64 fm)).setCell ⟨w.heap.size + 1, 4, none⟩ (.int .i64 tt))) (by rfl) rfl ?_ ?_
 · go_simp
   try rfl
 have HE13 : Hid (EnS w (((v10.setCell ⟨w.heap.size + 1, 2, none⟩ (.int .i64 kk)).setCell ⟨w.heap.size + 1, 3, none⟩ (.int .i64 fm)).setCell ⟨w.heap.size + 1, 4, none⟩ (.int .i64 tt)) P A c b.length q5 who seq kk fm tt 0 0 0 (.slice none 0 0) 0) := Lib.hid (HE12.out.put hPl 4 (.int .i64 tt) rfl)
 clear hcc hff HE12
 refine hK.out _ _ HE13.out.ptr.c0 (fun hHeld => ?_)
 clear hK K
 refine done_ (done_of HT_.out (by kernel_rfl)) ?_
 have hkk : kk = 2 ∨ kk = 3 ∨ kk = 1 ∨ kk = 0 := by omega
 rcases hkk with rfl | rfl | rfl | rfl
 · have hX := HX5.out
   rw [if_pos (by decide)] at hX
   have c2 := HE13.out.c2
   have r0 := HE13.out.ptr.c0
   rcases hres : rnum 2147483647 (b.drop q5) with f | ⟨mk, r⟩
   · rw [hres, bnd_err] at hX
     have HN := Lib.hid (snum_err HE13.out.spot (HG0.out _ HE13.out.grown) hc HBB.out hq5 2147483647 (by decide) (by decide) f hres)
     have HX := Lib.hid hX
     clear hX hres HX5
     go_wp2_with (go_at_call 131; refine HN.out.mono ?_; rintro e w7 ⟨rfl, hg⟩; have HG7 := Lib.hid (HE13.out.grown.trans hg); clear hg)
     exact ⟨rfl, RdP.err HX.out HG7.out⟩
   · obtain ⟨q9, hq9, rfl, hql, hm0, hm1⟩ := rnum_rest HBB.out hq5 hres
     have hN := snum_ok HE13.out.spot (HG0.out _ HE13.out.grown) hc HBB.out hq5 2147483647 (by decide) (by decide) mk _ hres
     rw [hql] at hN
     rw [hres, bnd_ok] at hX
     have HN := Lib.hid hN
     have HX := Lib.hid hX
     clear hX hres HX5 hN
     go_upto_region 8 with (go_at_call 131; refine HN.out.mono ?_; rintro e w7 ⟨rfl, hk, hg⟩; have HE20 := Lib.hid (HE13.out.num hPl hk hg); have f9 := HE20.out.f 9; have c9 := HE20.out.c9; have HE21 := Lib.hid (HE20.out.put hPl 9 (.int .i64 mk) (b0 := who) (b1 := seq) (b2 := 2) (b3 := fm) (b4 := tt) (b5 := 0) (b6 := 0) (b7 := 0) (b9 := mk) (v' := .slice none 0 0) rfl); clear hk hg)
     have e0 := HE21.out.c0
     have e1 := HE21.out.c1
     have e2 := HE21.out.c2
     have e3 := HE21.out.c3
     have e4 := HE21.out.c4
     have e5 := HE21.out.c5
     have e6 := HE21.out.c6
     have e7 := HE21.out.c7
     have e8 := HE21.out.c8
     have e9 := HE21.out.c9
     obtain ⟨w8, hw8⟩ : ∃ w8, w7.setCell ⟨w.heap.size + 1, 9, none⟩ (.int .i64 mk) = w8 := ⟨_, rfl⟩
     rw [hw8] at e0 e1 e2 e3 e4 e5 e6 e7 e8 e9 HE21 ⊢
     have ff := HE21.out.f
     clear hw8 HE20 HN
     go_wp2
     have g0 := HE21.out.put hPl 0 (.int .i64 who) (b0 := who) (b1 := seq) (b2 := 2) (b3 := fm) (b4 := tt) (b5 := 0) (b6 := 0) (b7 := 0) (b9 := mk) (v' := (.slice none 0 0)) rfl
     have g1 := g0.put hPl 1 (.int .i64 seq) (b0 := who) (b1 := seq) (b2 := 2) (b3 := fm) (b4 := tt) (b5 := 0) (b6 := 0) (b7 := 0) (b9 := mk) (v' := (.slice none 0 0)) rfl
     clear g0
     have g2 := g1.put hPl 2 (.int .i64 2) (b0 := who) (b1 := seq) (b2 := 2) (b3 := fm) (b4 := tt) (b5 := 0) (b6 := 0) (b7 := 0) (b9 := mk) (v' := (.slice none 0 0)) rfl
     clear g1
     have g3 := g2.put hPl 3 (.int .i64 fm) (b0 := who) (b1 := seq) (b2 := 2) (b3 := fm) (b4 := tt) (b5 := 0) (b6 := 0) (b7 := 0) (b9 := mk) (v' := (.slice none 0 0)) rfl
     clear g2
     have g4 := g3.put hPl 4 (.int .i64 tt) (b0 := who) (b1 := seq) (b2 := 2) (b3 := fm) (b4 := tt) (b5 := 0) (b6 := 0) (b7 := 0) (b9 := mk) (v' := (.slice none 0 0)) rfl
     clear g3
     have g5 := g4.put hPl 5 (.int .i64 0) (b0 := who) (b1 := seq) (b2 := 2) (b3 := fm) (b4 := tt) (b5 := 0) (b6 := 0) (b7 := 0) (b9 := mk) (v' := (.slice none 0 0)) rfl
     clear g4
     have g6 := g5.put hPl 6 (.int .i64 0) (b0 := who) (b1 := seq) (b2 := 2) (b3 := fm) (b4 := tt) (b5 := 0) (b6 := 0) (b7 := 0) (b9 := mk) (v' := (.slice none 0 0)) rfl
     clear g5
     have g7 := g6.put hPl 7 (.int .i64 0) (b0 := who) (b1 := seq) (b2 := 2) (b3 := fm) (b4 := tt) (b5 := 0) (b6 := 0) (b7 := 0) (b9 := mk) (v' := (.slice none 0 0)) rfl
     clear g6
     have g8 := g7.put hPl 8 (.slice none 0 0) (b0 := who) (b1 := seq) (b2 := 2) (b3 := fm) (b4 := tt) (b5 := 0) (b6 := 0) (b7 := 0) (b9 := mk) (v' := (.slice none 0 0)) rfl
     clear g7
     have g9 := g8.put hPl 9 (.int .i64 mk) (b0 := who) (b1 := seq) (b2 := 2) (b3 := fm) (b4 := tt) (b5 := 0) (b6 := 0) (b7 := 0) (b9 := mk) (v' := (.slice none 0 0)) rfl
     clear g8
     have z0 := g9.c0
     have z1 := g9.c1
     have z2 := g9.c2
     have z3 := g9.c3
     have z4 := g9.c4
     have z5 := g9.c5
     have z6 := g9.c6
     have z7 := g9.c7
     have z8 := g9.c8
     have z9 := g9.c9
     refine bodyPost_ret (v := .agg #[.int .i64 who, .int .i64 seq, .int .i64 2, .int .i64 fm, .int .i64 tt, .int .i64 0, .int .i64 0, .int .i64 0, .slice none 0 0, .int .i64 mk]) (by simp [results, Try.results94, go_sem, z0, z1, z2, z3, z4, z5, z6, z7, z8, z9]) rfl ?_
     exact RdP.ok HX.out g9.grown ⟨_, rfl, Kd.R_nil _ _ _ _ _⟩ g9.spot (by rw [List.length_drop]; omega)
 · have hX := HX5.out
   rw [if_pos (by decide)] at hX
   have c2 := HE13.out.c2
   have r0 := HE13.out.ptr.c0
   rcases hres : rnum 2147483647 (b.drop q5) with f | ⟨mk, r⟩
   · rw [hres, bnd_err] at hX
     have HN := Lib.hid (snum_err HE13.out.spot (HG0.out _ HE13.out.grown) hc HBB.out hq5 2147483647 (by decide) (by decide) f hres)
     have HX := Lib.hid hX
     clear hX hres HX5
     go_wp2_with (go_at_call 131; refine HN.out.mono ?_; rintro e w7 ⟨rfl, hg⟩; have HG7 := Lib.hid (HE13.out.grown.trans hg); clear hg)
     exact ⟨rfl, RdP.err HX.out HG7.out⟩
   · obtain ⟨q9, hq9, rfl, hql, hm0, hm1⟩ := rnum_rest HBB.out hq5 hres
     have hN := snum_ok HE13.out.spot (HG0.out _ HE13.out.grown) hc HBB.out hq5 2147483647 (by decide) (by decide) mk _ hres
     rw [hql] at hN
     rw [hres, bnd_ok] at hX
     have HN := Lib.hid hN
     have HX := Lib.hid hX
     clear hX hres HX5 hN
     go_upto_region 8 with (go_at_call 131; refine HN.out.mono ?_; rintro e w7 ⟨rfl, hk, hg⟩; have HE20 := Lib.hid (HE13.out.num hPl hk hg); have f9 := HE20.out.f 9; have c9 := HE20.out.c9; have HE21 := Lib.hid (HE20.out.put hPl 9 (.int .i64 mk) (b0 := who) (b1 := seq) (b2 := 3) (b3 := fm) (b4 := tt) (b5 := 0) (b6 := 0) (b7 := 0) (b9 := mk) (v' := .slice none 0 0) rfl); clear hk hg)
     have e0 := HE21.out.c0
     have e1 := HE21.out.c1
     have e2 := HE21.out.c2
     have e3 := HE21.out.c3
     have e4 := HE21.out.c4
     have e5 := HE21.out.c5
     have e6 := HE21.out.c6
     have e7 := HE21.out.c7
     have e8 := HE21.out.c8
     have e9 := HE21.out.c9
     obtain ⟨w8, hw8⟩ : ∃ w8, w7.setCell ⟨w.heap.size + 1, 9, none⟩ (.int .i64 mk) = w8 := ⟨_, rfl⟩
     rw [hw8] at e0 e1 e2 e3 e4 e5 e6 e7 e8 e9 HE21 ⊢
     have ff := HE21.out.f
     clear hw8 HE20 HN
     go_wp2
     have g0 := HE21.out.put hPl 0 (.int .i64 who) (b0 := who) (b1 := seq) (b2 := 3) (b3 := fm) (b4 := tt) (b5 := 0) (b6 := 0) (b7 := 0) (b9 := mk) (v' := (.slice none 0 0)) rfl
     have g1 := g0.put hPl 1 (.int .i64 seq) (b0 := who) (b1 := seq) (b2 := 3) (b3 := fm) (b4 := tt) (b5 := 0) (b6 := 0) (b7 := 0) (b9 := mk) (v' := (.slice none 0 0)) rfl
     clear g0
     have g2 := g1.put hPl 2 (.int .i64 3) (b0 := who) (b1 := seq) (b2 := 3) (b3 := fm) (b4 := tt) (b5 := 0) (b6 := 0) (b7 := 0) (b9 := mk) (v' := (.slice none 0 0)) rfl
     clear g1
     have g3 := g2.put hPl 3 (.int .i64 fm) (b0 := who) (b1 := seq) (b2 := 3) (b3 := fm) (b4 := tt) (b5 := 0) (b6 := 0) (b7 := 0) (b9 := mk) (v' := (.slice none 0 0)) rfl
     clear g2
     have g4 := g3.put hPl 4 (.int .i64 tt) (b0 := who) (b1 := seq) (b2 := 3) (b3 := fm) (b4 := tt) (b5 := 0) (b6 := 0) (b7 := 0) (b9 := mk) (v' := (.slice none 0 0)) rfl
     clear g3
     have g5 := g4.put hPl 5 (.int .i64 0) (b0 := who) (b1 := seq) (b2 := 3) (b3 := fm) (b4 := tt) (b5 := 0) (b6 := 0) (b7 := 0) (b9 := mk) (v' := (.slice none 0 0)) rfl
     clear g4
     have g6 := g5.put hPl 6 (.int .i64 0) (b0 := who) (b1 := seq) (b2 := 3) (b3 := fm) (b4 := tt) (b5 := 0) (b6 := 0) (b7 := 0) (b9 := mk) (v' := (.slice none 0 0)) rfl
     clear g5
     have g7 := g6.put hPl 7 (.int .i64 0) (b0 := who) (b1 := seq) (b2 := 3) (b3 := fm) (b4 := tt) (b5 := 0) (b6 := 0) (b7 := 0) (b9 := mk) (v' := (.slice none 0 0)) rfl
     clear g6
     have g8 := g7.put hPl 8 (.slice none 0 0) (b0 := who) (b1 := seq) (b2 := 3) (b3 := fm) (b4 := tt) (b5 := 0) (b6 := 0) (b7 := 0) (b9 := mk) (v' := (.slice none 0 0)) rfl
     clear g7
     have g9 := g8.put hPl 9 (.int .i64 mk) (b0 := who) (b1 := seq) (b2 := 3) (b3 := fm) (b4 := tt) (b5 := 0) (b6 := 0) (b7 := 0) (b9 := mk) (v' := (.slice none 0 0)) rfl
     clear g8
     have z0 := g9.c0
     have z1 := g9.c1
     have z2 := g9.c2
     have z3 := g9.c3
     have z4 := g9.c4
     have z5 := g9.c5
     have z6 := g9.c6
     have z7 := g9.c7
     have z8 := g9.c8
     have z9 := g9.c9
     refine bodyPost_ret (v := .agg #[.int .i64 who, .int .i64 seq, .int .i64 3, .int .i64 fm, .int .i64 tt, .int .i64 0, .int .i64 0, .int .i64 0, .slice none 0 0, .int .i64 mk]) (by simp [results, Try.results94, go_sem, z0, z1, z2, z3, z4, z5, z6, z7, z8, z9]) rfl ?_
     exact RdP.ok HX.out g9.grown ⟨_, rfl, Kd.R_nil _ _ _ _ _⟩ g9.spot (by rw [List.length_drop]; omega)
 · have hX := HX5.out
   rw [if_neg (by decide), if_pos rfl] at hX
   have HX6 := Lib.hid hX
   clear hX HX5
   have c2 := HE13.out.c2
   go_upto_region 10 with (fail)
   clear c2
   have HE14 := Lib.hid (HE13.out.drew hPl)
   refine start_ (n := 21) (S := fun w' => w'.cell? ⟨w.heap.size, 0, none⟩ = some (.pointer (some ⟨P, 0, none⟩))) (ds := []) #[false, false, false, false, false, false, false, false, false, false, false, false, false, false, false, false, false, false, false, false, false] (by kernel_rfl) rfl rfl HE14.out.ptr.c0 (fun hHeld => ?_); refine with_tabW entR10.tab entR10.bits (fun HT_ HW_ => ?_)
   refine pure_ (i := 0) (N := (some 47)) (v := ?_) (a' := ?_) #[true, false, false, false, false, false, false, false, false, false, false, false, false, false, false, false, false, false, false, false, false] rfl rfl (any_of HT_.out (by kernel_rfl)) (fun _ _ _ h => h) (Or.inl ⟨by rfl, ?_⟩) ?_ ?_
   rotate_left
   · intro w'
     go_simp
     with_reducible rfl
   rotate_left
   · simp only [Act.put, sA_, sB_, sC_, i64_w, i32_w]
     rfl
   refine pure_ (i := 1) (N := (some 48)) (v := ?_) (a' := ?_) #[true, true, false, false, false, false, false, false, false, false, false, false, false, false, false, false, false, false, false, false, false] rfl rfl (any_of HT_.out (by kernel_rfl)) (fun _ _ _ h => h) (Or.inl ⟨by rfl, ?_⟩) ?_ ?_
   rotate_left
   · intro w'
     go_simp
     with_reducible rfl
   rotate_left
   · simp only [Act.put, sA_, sB_, sC_, i64_w, i32_w]
     rfl
   refine pure_ (i := 2) (N := (some 49)) (v := ?_) (a' := ?_) #[true, true, true, false, false, false, false, false, false, false, false, false, false, false, false, false, false, false, false, false, false] rfl rfl (any_of HT_.out (by kernel_rfl)) (fun _ _ _ h => h) (Or.inl ⟨by rfl, ?_⟩) ?_ ?_
   rotate_left
   · intro w'
     go_simp
     with_reducible rfl
   rotate_left
   · simp only [Act.put, sA_, sB_, sC_, i64_w, i32_w]
     rfl
   refine pure_ (i := 3) (N := (some 50)) (v := ?_) (a' := ?_) #[true, true, true, true, false, false, false, false, false, false, false, false, false, false, false, false, false, false, false, false, false] rfl rfl (any_of HT_.out (by kernel_rfl)) (fun _ _ _ h => h) (Or.inl ⟨by rfl, ?_⟩) ?_ ?_
   rotate_left
   · intro w'
     go_simp
     with_reducible rfl
   rotate_left
   · simp only [Act.put, sA_, sB_, sC_, i64_w, i32_w]
     rfl
   refine pure_ (i := 6) (N := (some 53)) (v := ?_) (a' := ?_) #[true, true, true, true, false, false, true, false, false, false, false, false, false, false, false, false, false, false, false, false, false] rfl rfl (any_of HT_.out (by kernel_rfl)) (fun _ _ _ h => h) (Or.inl ⟨by rfl, ?_⟩) ?_ ?_
   rotate_left
   · intro w'
     go_simp
     with_reducible rfl
   rotate_left
   · simp only [Act.put, sA_, sB_, sC_, i64_w, i32_w]
     rfl
   refine pure_ (i := 9) (N := (some 56)) (v := ?_) (a' := ?_) #[true, true, true, true, false, false, true, false, false, true, false, false, false, false, false, false, false, false, false, false, false] rfl rfl (any_of HT_.out (by kernel_rfl)) (fun _ _ _ h => h) (Or.inl ⟨by rfl, ?_⟩) ?_ ?_
   rotate_left
   · intro w'
     go_simp
     with_reducible rfl
   rotate_left
   · simp only [Act.put, sA_, sB_, sC_, i64_w, i32_w]
     rfl
   refine take_ (i := 4) (N := (some 51)) (v := ?_) (a' := ?_) #[true, true, true, true, true, false, true, false, false, true, false, false, false, false, false, false, false, false, false, false, false] rfl rfl (take_ofW HT_.out HW_.out (by kernel_rfl)) (fun _ _ _ h => h) (Or.inl ⟨by rfl, ?_⟩) hHeld ?_ ?_
   rotate_left
   · rintro w' s0
     go_simp
     with_reducible rfl
   rotate_left
   · simp only [Act.put, sA_, sB_, sC_, i64_w, i32_w]
     rfl
   refine take_ (i := 7) (N := (some 54)) (v := ?_) (a' := ?_) #[true, true, true, true, true, false, true, true, false, true, false, false, false, false, false, false, false, false, false, false, false] rfl rfl (take_ofW HT_.out HW_.out (by kernel_rfl)) (fun _ _ _ h => h) (Or.inl ⟨by rfl, ?_⟩) hHeld ?_ ?_
   rotate_left
   · rintro w' s0
     go_simp
     with_reducible rfl
   rotate_left
   · simp only [Act.put, sA_, sB_, sC_, i64_w, i32_w]
     rfl
   refine take_ (i := 10) (N := (some 57)) (v := ?_) (a' := ?_) #[true, true, true, true, true, false, true, true, false, true, true, false, false, false, false, false, false, false, false, false, false] rfl rfl (take_ofW HT_.out HW_.out (by kernel_rfl)) (fun _ _ _ h => h) (Or.inl ⟨by rfl, ?_⟩) hHeld ?_ ?_
   rotate_left
   · rintro w' s0
     go_simp
     with_reducible rfl
   rotate_left
   · simp only [Act.put, sA_, sB_, sC_, i64_w, i32_w]
     rfl
   refine one_ (i := 5) (N := (some 52)) #[true, true, true, true, true, true, true, true, false, true, true, false, false, false, false, false, false, false, false, false, false] rfl rfl (one_of HT_.out (by kernel_rfl)) (by decide) (fun K hK => ?_)
   have hX := HX6.out
   rcases hres : rnum 2147483647 (b.drop q5) with f | ⟨gf, r⟩
   · rw [hres, bnd_err] at hX
     refine goesP_ Try.func131 (by kernel_rfl) rfl #[.pointer (some ⟨P, 0, none⟩), .int .i64 2147483647] (by rfl) rfl rfl (by (try simp only [List.map_toArray, List.map_cons, List.map_nil]); first | done | rfl) ?_
     refine (snum_err HE14.out.spot (HG0.out _ HE14.out.grown) hc HBB.out hq5 2147483647 (by decide) (by decide) f hres).mono ?_
     rintro e w' ⟨rfl, hg⟩
     exact .inr ⟨_, rfl, And.intro rfl (RdP.err hX (HE14.out.grown.trans hg))⟩
   obtain ⟨q6, hq6, rfl, hql, hn0gf, hn1gf⟩ := rnum_rest HBB.out hq5 hres
   rw [hres, bnd_ok] at hX
   have HX7 := Lib.hid hX
   refine goesP_ Try.func131 (by kernel_rfl) rfl #[.pointer (some ⟨P, 0, none⟩), .int .i64 2147483647] (by rfl) rfl rfl (by (try simp only [List.map_toArray, List.map_cons, List.map_nil]); first | done | rfl) ?_
   refine (snum_ok HE14.out.spot (HG0.out _ HE14.out.grown) hc HBB.out hq5 2147483647 (by decide) (by decide) gf _ hres).mono ?_
   rintro e v15 ⟨rfl, hk, hg⟩
   rw [hql] at hk
   have HE15 := Lib.hid (HE14.out.num hPl hk hg)
   clear hk hg hres hX hql HX6 HE14
   refine .inl ⟨_, rfl, ?_⟩
   refine hK.out _ _ HE15.out.ptr.c0 (fun hHeld => ?_)
   clear hK K
   refine norm_ (a' := ?_) ?_ ?_
   rotate_left
   · show Act.put _ (some 52) _ = _
     simp only [Act.put, sA_, sB_, sC_, i64_w, i32_w]
     rfl
   refine one_ (i := 8) (N := (some 55)) #[true, true, true, true, true, true, true, true, true, true, true, false, false, false, false, false, false, false, false, false, false] rfl rfl (one_of HT_.out (by kernel_rfl)) (by decide) (fun K hK => ?_)
   have hX := HX7.out
   rcases hres : rnum 2147483647 (b.drop q6) with f | ⟨gt, r⟩
   · rw [hres, bnd_err] at hX
     refine goesP_ Try.func131 (by kernel_rfl) rfl #[.pointer (some ⟨P, 0, none⟩), .int .i64 2147483647] (by rfl) rfl rfl (by (try simp only [List.map_toArray, List.map_cons, List.map_nil]); first | done | rfl) ?_
     refine (snum_err HE15.out.spot (HG0.out _ HE15.out.grown) hc HBB.out hq6 2147483647 (by decide) (by decide) f hres).mono ?_
     rintro e w' ⟨rfl, hg⟩
     exact .inr ⟨_, rfl, And.intro rfl (RdP.err hX (HE15.out.grown.trans hg))⟩
   obtain ⟨q7, hq7, rfl, hql, hn0gt, hn1gt⟩ := rnum_rest HBB.out hq6 hres
   rw [hres, bnd_ok] at hX
   have HX8 := Lib.hid hX
   refine goesP_ Try.func131 (by kernel_rfl) rfl #[.pointer (some ⟨P, 0, none⟩), .int .i64 2147483647] (by rfl) rfl rfl (by (try simp only [List.map_toArray, List.map_cons, List.map_nil]); first | done | rfl) ?_
   refine (snum_ok HE15.out.spot (HG0.out _ HE15.out.grown) hc HBB.out hq6 2147483647 (by decide) (by decide) gt _ hres).mono ?_
   rintro e v16 ⟨rfl, hk, hg⟩
   rw [hql] at hk
   have HE16 := Lib.hid (HE15.out.num hPl hk hg)
   clear hk hg hres hX hql HX7 HE15
   refine .inl ⟨_, rfl, ?_⟩
   refine hK.out _ _ HE16.out.ptr.c0 (fun hHeld => ?_)
   clear hK K
   refine norm_ (a' := ?_) ?_ ?_
   rotate_left
   · show Act.put _ (some 55) _ = _
     simp only [Act.put, sA_, sB_, sC_, i64_w, i32_w]
     rfl
   refine one_ (i := 11) (N := (some 58)) #[true, true, true, true, true, true, true, true, true, true, true, true, false, false, false, false, false, false, false, false, false] rfl rfl (one_of HT_.out (by kernel_rfl)) (by decide) (fun K hK => ?_)
   have hX := HX8.out
   rcases hres : rnum 2147483647 (b.drop q7) with f | ⟨ins, r⟩
   · rw [hres, bnd_err] at hX
     refine goesP_ Try.func131 (by kernel_rfl) rfl #[.pointer (some ⟨P, 0, none⟩), .int .i64 2147483647] (by rfl) rfl rfl (by (try simp only [List.map_toArray, List.map_cons, List.map_nil]); first | done | rfl) ?_
     refine (snum_err HE16.out.spot (HG0.out _ HE16.out.grown) hc HBB.out hq7 2147483647 (by decide) (by decide) f hres).mono ?_
     rintro e w' ⟨rfl, hg⟩
     exact .inr ⟨_, rfl, And.intro rfl (RdP.err hX (HE16.out.grown.trans hg))⟩
   obtain ⟨q8, hq8, rfl, hql, hn0ins, hn1ins⟩ := rnum_rest HBB.out hq7 hres
   rw [hres, bnd_ok] at hX
   have HX9 := Lib.hid hX
   refine goesP_ Try.func131 (by kernel_rfl) rfl #[.pointer (some ⟨P, 0, none⟩), .int .i64 2147483647] (by rfl) rfl rfl (by (try simp only [List.map_toArray, List.map_cons, List.map_nil]); first | done | rfl) ?_
   refine (snum_ok HE16.out.spot (HG0.out _ HE16.out.grown) hc HBB.out hq7 2147483647 (by decide) (by decide) ins _ hres).mono ?_
   rintro e v17 ⟨rfl, hk, hg⟩
   rw [hql] at hk
   have HE17 := Lib.hid (HE16.out.num hPl hk hg)
   clear hk hg hres hX hql HX8 HE16
   refine .inl ⟨_, rfl, ?_⟩
   refine hK.out _ _ HE17.out.ptr.c0 (fun hHeld => ?_)
   clear hK K
   refine norm_ (a' := ?_) ?_ ?_
   rotate_left
   · show Act.put _ (some 58) _ = _
     simp only [Act.put, sA_, sB_, sC_, i64_w, i32_w]
     rfl
   refine pure_ (i := 12) (N := (some 59)) (v := ?_) (a' := ?_) #[true, true, true, true, true, true, true, true, true, true, true, true, true, false, false, false, false, false, false, false, false] rfl rfl (any_of HT_.out (by kernel_rfl)) (fun _ _ _ h => h) (Or.inl ⟨by rfl, ?_⟩) ?_ ?_
   rotate_left
   · intro w'
     go_simp
     with_reducible rfl
   rotate_left
   · simp only [Act.put, sA_, sB_, sC_, i64_w, i32_w]
     rfl
   refine pure_ (i := 13) (N := (some 60)) (v := ?_) (a' := ?_) #[true, true, true, true, true, true, true, true, true, true, true, true, true, true, false, false, false, false, false, false, false] rfl rfl (any_of HT_.out (by kernel_rfl)) (fun _ _ _ h => h) (Or.inl ⟨by rfl, ?_⟩) ?_ ?_
   rotate_left
   · intro w'
     go_simp
     with_reducible rfl
   rotate_left
   · simp only [Act.put, sA_, sB_, sC_, i64_w, i32_w]
     rfl
   refine one_ (i := 14) (N := none) #[true, true, true, true, true, true, true, true, true, true, true, true, true, true, true, false, false, false, false, false, false] rfl rfl (one_of HT_.out (by kernel_rfl)) (by decide) (fun K hK => ?_)
   have hcc := HE17.out.c5
   have hff := HE17.out.f 5
   refine skip_ (w1 := (v17.setCell ⟨w.heap.size + 1, 5, none⟩ (.int .i64 gf))) (by rfl) rfl ?_ ?_
   · go_simp
     try rfl
   have HE18 : Hid (EnS w (v17.setCell ⟨w.heap.size + 1, 5, none⟩ (.int .i64 gf)) P A c b.length q8 who seq 1 fm tt gf 0 0 (.slice none 0 0) 0) := Lib.hid (HE17.out.put hPl 5 (.int .i64 gf) rfl)
   clear hcc hff HE17
   refine hK.out _ _ HE18.out.ptr.c0 (fun hHeld => ?_)
   clear hK K
   refine pure_ (i := 15) (N := (some 61)) (v := ?_) (a' := ?_) #[true, true, true, true, true, true, true, true, true, true, true, true, true, true, true, true, false, false, false, false, false] rfl rfl (any_of HT_.out (by kernel_rfl)) (fun _ _ _ h => h) (Or.inl ⟨by rfl, ?_⟩) ?_ ?_
   rotate_left
   · intro w'
     go_simp
     with_reducible rfl
   rotate_left
   · simp only [Act.put, sA_, sB_, sC_, i64_w, i32_w]
     rfl
   refine pure_ (i := 16) (N := (some 62)) (v := ?_) (a' := ?_) #[true, true, true, true, true, true, true, true, true, true, true, true, true, true, true, true, true, false, false, false, false] rfl rfl (any_of HT_.out (by kernel_rfl)) (fun _ _ _ h => h) (Or.inl ⟨by rfl, ?_⟩) ?_ ?_
   rotate_left
   · intro w'
     go_simp
     with_reducible rfl
   rotate_left
   · simp only [Act.put, sA_, sB_, sC_, i64_w, i32_w]
     rfl
   refine one_ (i := 17) (N := none) #[true, true, true, true, true, true, true, true, true, true, true, true, true, true, true, true, true, true, false, false, false] rfl rfl (one_of HT_.out (by kernel_rfl)) (by decide) (fun K hK => ?_)
   have hcc := HE18.out.c6
   have hff := HE18.out.f 6
   refine skip_ (w1 := ((v17.setCell ⟨w.heap.size + 1, 5, none⟩ (.int .i64 gf)).setCell ⟨w.heap.size + 1, 6, none⟩ (.int .i64 gt))) (by rfl) rfl ?_ ?_
   · go_simp
     try rfl
   have HE19 : Hid (EnS w ((v17.setCell ⟨w.heap.size + 1, 5, none⟩ (.int .i64 gf)).setCell ⟨w.heap.size + 1, 6, none⟩ (.int .i64 gt)) P A c b.length q8 who seq 1 fm tt gf gt 0 (.slice none 0 0) 0) := Lib.hid (HE18.out.put hPl 6 (.int .i64 gt) rfl)
   clear hcc hff HE18
   refine hK.out _ _ HE19.out.ptr.c0 (fun hHeld => ?_)
   clear hK K
   refine pure_ (i := 18) (N := (some 63)) (v := ?_) (a' := ?_) #[true, true, true, true, true, true, true, true, true, true, true, true, true, true, true, true, true, true, true, false, false] rfl rfl (any_of HT_.out (by kernel_rfl)) (fun _ _ _ h => h) (Or.inl ⟨by rfl, ?_⟩) ?_ ?_
   rotate_left
   · intro w'
     go_simp
     with_reducible rfl
   rotate_left
   · simp only [Act.put, sA_, sB_, sC_, i64_w, i32_w]
     rfl
   refine pure_ (i := 19) (N := (some 64)) (v := ?_) (a' := ?_) #[true, true, true, true, true, true, true, true, true, true, true, true, true, true, true, true, true, true, true, true, false] rfl rfl (any_of HT_.out (by kernel_rfl)) (fun _ _ _ h => h) (Or.inl ⟨by rfl, ?_⟩) ?_ ?_
   rotate_left
   · intro w'
     go_simp
     with_reducible rfl
   rotate_left
   · simp only [Act.put, sA_, sB_, sC_, i64_w, i32_w]
     rfl
   refine one_ (i := 20) (N := none) #[true, true, true, true, true, true, true, true, true, true, true, true, true, true, true, true, true, true, true, true, true] rfl rfl (one_of HT_.out (by kernel_rfl)) (by decide) (fun K hK => ?_)
   have hcc := HE19.out.c7
   have hff := HE19.out.f 7
   refine skip_ (w1 := (((v17.setCell ⟨w.heap.size + 1, 5, none⟩ (.int .i64 gf)).setCell ⟨w.heap.size + 1, 6, none⟩ (.int .i64 gt)).setCell ⟨w.heap.size + 1, 7, none⟩ (.int .i64 ins))) (by rfl) rfl ?_ ?_
   · go_simp
     try rfl
   have HE20 : Hid (EnS w (((v17.setCell ⟨w.heap.size + 1, 5, none⟩ (.int .i64 gf)).setCell ⟨w.heap.size + 1, 6, none⟩ (.int .i64 gt)).setCell ⟨w.heap.size + 1, 7, none⟩ (.int .i64 ins)) P A c b.length q8 who seq 1 fm tt gf gt ins (.slice none 0 0) 0) := Lib.hid (HE19.out.put hPl 7 (.int .i64 ins) rfl)
   clear hcc hff HE19
   refine hK.out _ _ HE20.out.ptr.c0 (fun hHeld => ?_)
   clear hK K
   refine done_ (done_of HT_.out (by kernel_rfl)) ?_
   go_upto_region 11 with (fail)
   have hX := HX9.out
   have hd := sdoc_is HC.out hc HBB.out (below_of_grown HB0.out HE20.out.grown hP) hP HE20.out.spot hq8
   have hEs := HE20.out.size
   obtain ⟨W11, hW11⟩ : ∃ W11, (((v17.setCell ⟨w.heap.size + 1, 5, none⟩ (.int .i64 gf)).setCell ⟨w.heap.size + 1, 6, none⟩ (.int .i64 gt)).setCell ⟨w.heap.size + 1, 7, none⟩ (.int .i64 ins)) = W11 := ⟨_, rfl⟩
   rw [hW11] at hd hEs HE20 ⊢
   have r0 := HE20.out.ptr.c0
   skip
   clear hW11
   rcases hres : rdoc (b.drop q8) with f | ⟨sl, r⟩
   · rw [hres, bnd_err] at hX
     rw [hres] at hd
     have HD := Lib.hid hd
     have HX := Lib.hid hX
     clear hX hres hd HX9
     go_wp2_with (go_at_call 125; refine HD.out.mono ?_; rintro e w17 h17; obtain ⟨rfl, hg⟩ := h17.err_inv; have HG17 := Lib.hid (HE20.out.grown.trans hg); clear h17 hg)
     exact ⟨rfl, RdP.err HX.out HG17.out⟩
   · rw [hres, bnd_ok] at hX
     rw [hres] at hd
     have HD := Lib.hid hd
     have HX := Lib.hid hX
     clear hX hres hd HX9
     go_upto_region 12 with (go_at_call 125; refine HD.out.mono ?_; rintro e w17 h17; obtain ⟨u, rfl, ht, hk, hg⟩ := h17.ok_inv; obtain ⟨Au, cu, rfl, _, _⟩ := Kd.R_reads ht; have HE30 := Lib.hid (HE20.out.num hPl hk hg); have f8 := HE30.out.f 8; have c8 := HE30.out.c8; have HE31 := Lib.hid (HE30.out.put hPl 8 (.slice Au sl.length cu) (b0 := who) (b1 := seq) (b2 := 1) (b3 := fm) (b4 := tt) (b5 := gf) (b6 := gt) (b7 := ins) (b9 := 0) (v' := .slice Au sl.length cu) rfl); have HLT : Hid (w.heap.size + 1 < W11.heap.size) := Lib.hid (by omega); have HT := Lib.hid (ht.set (E := w.heap.size + 1) HLT.out 8 (.slice Au sl.length cu)); clear h17 hk hg ht)
     have e0 := HE31.out.c0
     have e1 := HE31.out.c1
     have e2 := HE31.out.c2
     have e3 := HE31.out.c3
     have e4 := HE31.out.c4
     have e5 := HE31.out.c5
     have e6 := HE31.out.c6
     have e7 := HE31.out.c7
     have e8 := HE31.out.c8
     have e9 := HE31.out.c9
     obtain ⟨w18, hw18⟩ : ∃ w18, w17.setCell ⟨w.heap.size + 1, 8, none⟩ (.slice Au sl.length cu) = w18 := ⟨_, rfl⟩
     rw [hw18] at e0 e1 e2 e3 e4 e5 e6 e7 e8 e9 HE31 HT ⊢
     have ff := HE31.out.f
     clear hw18 HE30 HD
     go_wp2
     have g0 := HE31.out.put hPl 0 (.int .i64 who) (b0 := who) (b1 := seq) (b2 := 1) (b3 := fm) (b4 := tt) (b5 := gf) (b6 := gt) (b7 := ins) (b9 := 0) (v' := (.slice Au sl.length cu)) rfl
     have g1 := g0.put hPl 1 (.int .i64 seq) (b0 := who) (b1 := seq) (b2 := 1) (b3 := fm) (b4 := tt) (b5 := gf) (b6 := gt) (b7 := ins) (b9 := 0) (v' := (.slice Au sl.length cu)) rfl
     clear g0
     have g2 := g1.put hPl 2 (.int .i64 1) (b0 := who) (b1 := seq) (b2 := 1) (b3 := fm) (b4 := tt) (b5 := gf) (b6 := gt) (b7 := ins) (b9 := 0) (v' := (.slice Au sl.length cu)) rfl
     clear g1
     have g3 := g2.put hPl 3 (.int .i64 fm) (b0 := who) (b1 := seq) (b2 := 1) (b3 := fm) (b4 := tt) (b5 := gf) (b6 := gt) (b7 := ins) (b9 := 0) (v' := (.slice Au sl.length cu)) rfl
     clear g2
     have g4 := g3.put hPl 4 (.int .i64 tt) (b0 := who) (b1 := seq) (b2 := 1) (b3 := fm) (b4 := tt) (b5 := gf) (b6 := gt) (b7 := ins) (b9 := 0) (v' := (.slice Au sl.length cu)) rfl
     clear g3
     have g5 := g4.put hPl 5 (.int .i64 gf) (b0 := who) (b1 := seq) (b2 := 1) (b3 := fm) (b4 := tt) (b5 := gf) (b6 := gt) (b7 := ins) (b9 := 0) (v' := (.slice Au sl.length cu)) rfl
     clear g4
     have g6 := g5.put hPl 6 (.int .i64 gt) (b0 := who) (b1 := seq) (b2 := 1) (b3 := fm) (b4 := tt) (b5 := gf) (b6 := gt) (b7 := ins) (b9 := 0) (v' := (.slice Au sl.length cu)) rfl
     clear g5
     have g7 := g6.put hPl 7 (.int .i64 ins) (b0 := who) (b1 := seq) (b2 := 1) (b3 := fm) (b4 := tt) (b5 := gf) (b6 := gt) (b7 := ins) (b9 := 0) (v' := (.slice Au sl.length cu)) rfl
     clear g6
     have g8 := g7.put hPl 8 (.slice Au sl.length cu) (b0 := who) (b1 := seq) (b2 := 1) (b3 := fm) (b4 := tt) (b5 := gf) (b6 := gt) (b7 := ins) (b9 := 0) (v' := (.slice Au sl.length cu)) rfl
     clear g7
     have g9 := g8.put hPl 9 (.int .i64 0) (b0 := who) (b1 := seq) (b2 := 1) (b3 := fm) (b4 := tt) (b5 := gf) (b6 := gt) (b7 := ins) (b9 := 0) (v' := (.slice Au sl.length cu)) rfl
     clear g8
     have t0 := HT.out
     replace t0 := t0.set (E := w.heap.size + 1) HLT.out 0 (.int .i64 who)
     replace t0 := t0.set (E := w.heap.size + 1) HLT.out 1 (.int .i64 seq)
     replace t0 := t0.set (E := w.heap.size + 1) HLT.out 2 (.int .i64 1)
     replace t0 := t0.set (E := w.heap.size + 1) HLT.out 3 (.int .i64 fm)
     replace t0 := t0.set (E := w.heap.size + 1) HLT.out 4 (.int .i64 tt)
     replace t0 := t0.set (E := w.heap.size + 1) HLT.out 5 (.int .i64 gf)
     replace t0 := t0.set (E := w.heap.size + 1) HLT.out 6 (.int .i64 gt)
     replace t0 := t0.set (E := w.heap.size + 1) HLT.out 7 (.int .i64 ins)
     replace t0 := t0.set (E := w.heap.size + 1) HLT.out 8 (.slice Au sl.length cu)
     replace t0 := t0.set (E := w.heap.size + 1) HLT.out 9 (.int .i64 0)
     have z0 := g9.c0
     have z1 := g9.c1
     have z2 := g9.c2
     have z3 := g9.c3
     have z4 := g9.c4
     have z5 := g9.c5
     have z6 := g9.c6
     have z7 := g9.c7
     have z8 := g9.c8
     have z9 := g9.c9
     refine bodyPost_ret (v := .agg #[.int .i64 who, .int .i64 seq, .int .i64 1, .int .i64 fm, .int .i64 tt, .int .i64 gf, .int .i64 gt, .int .i64 ins, .slice Au sl.length cu, .int .i64 0]) (by simp [results, Try.results94, go_sem, z0, z1, z2, z3, z4, z5, z6, z7, z8, z9]) rfl ?_
     exact RdP.ok HX.out g9.grown ⟨_, rfl, Kd.R_lower t0 (by have := HLT.out; omega)⟩ g9.spot rfl
 · have hX := HX5.out
   rw [if_neg (by decide), if_neg (by decide)] at hX
   have HX6 := Lib.hid hX
   clear hX HX5
   have hX := HX6.out
   have hd := sdoc_is HC.out hc HBB.out (below_of_grown HB0.out HE13.out.grown hP) hP HE13.out.spot hq5
   have hEs := HE13.out.size
   obtain ⟨W11, hW11⟩ : ∃ W11, (((v10.setCell ⟨w.heap.size + 1, 2, none⟩ (.int .i64 0)).setCell ⟨w.heap.size + 1, 3, none⟩ (.int .i64 fm)).setCell ⟨w.heap.size + 1, 4, none⟩ (.int .i64 tt)) = W11 := ⟨_, rfl⟩
   rw [hW11] at hd hEs HE13 ⊢
   have r0 := HE13.out.ptr.c0
   have c2 := HE13.out.c2
   clear hW11
   rcases hres : rdoc (b.drop q5) with f | ⟨sl, r⟩
   · rw [hres, bnd_err] at hX
     rw [hres] at hd
     have HD := Lib.hid hd
     have HX := Lib.hid hX
     clear hX hres hd HX6
     go_wp2_with (go_at_call 125; refine HD.out.mono ?_; rintro e w17 h17; obtain ⟨rfl, hg⟩ := h17.err_inv; have HG17 := Lib.hid (HE13.out.grown.trans hg); clear h17 hg)
     exact ⟨rfl, RdP.err HX.out HG17.out⟩
   · rw [hres, bnd_ok] at hX
     rw [hres] at hd
     have HD := Lib.hid hd
     have HX := Lib.hid hX
     clear hX hres hd HX6
     go_upto_region 12 with (go_at_call 125; refine HD.out.mono ?_; rintro e w17 h17; obtain ⟨u, rfl, ht, hk, hg⟩ := h17.ok_inv; obtain ⟨Au, cu, rfl, _, _⟩ := Kd.R_reads ht; have HE30 := Lib.hid (HE13.out.num hPl hk hg); have f8 := HE30.out.f 8; have c8 := HE30.out.c8; have HE31 := Lib.hid (HE30.out.put hPl 8 (.slice Au sl.length cu) (b0 := who) (b1 := seq) (b2 := 0) (b3 := fm) (b4 := tt) (b5 := 0) (b6 := 0) (b7 := 0) (b9 := 0) (v' := .slice Au sl.length cu) rfl); have HLT : Hid (w.heap.size + 1 < W11.heap.size) := Lib.hid (by omega); have HT := Lib.hid (ht.set (E := w.heap.size + 1) HLT.out 8 (.slice Au sl.length cu)); clear h17 hk hg ht)
     have e0 := HE31.out.c0
     have e1 := HE31.out.c1
     have e2 := HE31.out.c2
     have e3 := HE31.out.c3
     have e4 := HE31.out.c4
     have e5 := HE31.out.c5
     have e6 := HE31.out.c6
     have e7 := HE31.out.c7
     have e8 := HE31.out.c8
     have e9 := HE31.out.c9
     obtain ⟨w18, hw18⟩ : ∃ w18, w17.setCell ⟨w.heap.size + 1, 8, none⟩ (.slice Au sl.length cu) = w18 := ⟨_, rfl⟩
     rw [hw18] at e0 e1 e2 e3 e4 e5 e6 e7 e8 e9 HE31 HT ⊢
     have ff := HE31.out.f
     clear hw18 HE30 HD
     go_wp2
     have g0 := HE31.out.put hPl 0 (.int .i64 who) (b0 := who) (b1 := seq) (b2 := 0) (b3 := fm) (b4 := tt) (b5 := 0) (b6 := 0) (b7 := 0) (b9 := 0) (v' := (.slice Au sl.length cu)) rfl
     have g1 := g0.put hPl 1 (.int .i64 seq) (b0 := who) (b1 := seq) (b2 := 0) (b3 := fm) (b4 := tt) (b5 := 0) (b6 := 0) (b7 := 0) (b9 := 0) (v' := (.slice Au sl.length cu)) rfl
     clear g0
     have g2 := g1.put hPl 2 (.int .i64 0) (b0 := who) (b1 := seq) (b2 := 0) (b3 := fm) (b4 := tt) (b5 := 0) (b6 := 0) (b7 := 0) (b9 := 0) (v' := (.slice Au sl.length cu)) rfl
     clear g1
     have g3 := g2.put hPl 3 (.int .i64 fm) (b0 := who) (b1 := seq) (b2 := 0) (b3 := fm) (b4 := tt) (b5 := 0) (b6 := 0) (b7 := 0) (b9 := 0) (v' := (.slice Au sl.length cu)) rfl
     clear g2
     have g4 := g3.put hPl 4 (.int .i64 tt) (b0 := who) (b1 := seq) (b2 := 0) (b3 := fm) (b4 := tt) (b5 := 0) (b6 := 0) (b7 := 0) (b9 := 0) (v' := (.slice Au sl.length cu)) rfl
     clear g3
     have g5 := g4.put hPl 5 (.int .i64 0) (b0 := who) (b1 := seq) (b2 := 0) (b3 := fm) (b4 := tt) (b5 := 0) (b6 := 0) (b7 := 0) (b9 := 0) (v' := (.slice Au sl.length cu)) rfl
     clear g4
     have g6 := g5.put hPl 6 (.int .i64 0) (b0 := who) (b1 := seq) (b2 := 0) (b3 := fm) (b4 := tt) (b5 := 0) (b6 := 0) (b7 := 0) (b9 := 0) (v' := (.slice Au sl.length cu)) rfl
     clear g5
     have g7 := g6.put hPl 7 (.int .i64 0) (b0 := who) (b1 := seq) (b2 := 0) (b3 := fm) (b4 := tt) (b5 := 0) (b6 := 0) (b7 := 0) (b9 := 0) (v' := (.slice Au sl.length cu)) rfl
     clear g6
     have g8 := g7.put hPl 8 (.slice Au sl.length cu) (b0 := who) (b1 := seq) (b2 := 0) (b3 := fm) (b4 := tt) (b5 := 0) (b6 := 0) (b7 := 0) (b9 := 0) (v' := (.slice Au sl.length cu)) rfl
     clear g7
     have g9 := g8.put hPl 9 (.int .i64 0) (b0 := who) (b1 := seq) (b2 := 0) (b3 := fm) (b4 := tt) (b5 := 0) (b6 := 0) (b7 := 0) (b9 := 0) (v' := (.slice Au sl.length cu)) rfl
     clear g8
     have t0 := HT.out
     replace t0 := t0.set (E := w.heap.size + 1) HLT.out 0 (.int .i64 who)
     replace t0 := t0.set (E := w.heap.size + 1) HLT.out 1 (.int .i64 seq)
     replace t0 := t0.set (E := w.heap.size + 1) HLT.out 2 (.int .i64 0)
     replace t0 := t0.set (E := w.heap.size + 1) HLT.out 3 (.int .i64 fm)
     replace t0 := t0.set (E := w.heap.size + 1) HLT.out 4 (.int .i64 tt)
     replace t0 := t0.set (E := w.heap.size + 1) HLT.out 5 (.int .i64 0)
     replace t0 := t0.set (E := w.heap.size + 1) HLT.out 6 (.int .i64 0)
     replace t0 := t0.set (E := w.heap.size + 1) HLT.out 7 (.int .i64 0)
     replace t0 := t0.set (E := w.heap.size + 1) HLT.out 8 (.slice Au sl.length cu)
     replace t0 := t0.set (E := w.heap.size + 1) HLT.out 9 (.int .i64 0)
     have z0 := g9.c0
     have z1 := g9.c1
     have z2 := g9.c2
     have z3 := g9.c3
     have z4 := g9.c4
     have z5 := g9.c5
     have z6 := g9.c6
     have z7 := g9.c7
     have z8 := g9.c8
     have z9 := g9.c9
     refine bodyPost_ret (v := .agg #[.int .i64 who, .int .i64 seq, .int .i64 0, .int .i64 fm, .int .i64 tt, .int .i64 0, .int .i64 0, .int .i64 0, .slice Au sl.length cu, .int .i64 0]) (by simp [results, Try.results94, go_sem, z0, z1, z2, z3, z4, z5, z6, z7, z8, z9]) rfl ?_
     exact RdP.ok HX.out g9.grown ⟨_, rfl, Kd.R_lower t0 (by have := HLT.out; omega)⟩ g9.spot rfl
end Go.Proofs.Ytmbnjgnmblgjoaa.Man
end
section
namespace Go.Proofs.Ytmbnjgnmblgjoaa.Man
open Go.RowKit Go.Proofs.YtmbnjgnmblgjoaaW.PrintWords Go.Proofs.YtmbnjgnmblgjoaaW.PrintLast Go.Proofs.YtmbnjgnmblgjoaaW.PrintMore
set_option linter.unusedVariables false
set_option linter.unusedSimpArgs false
set_option maxRecDepth 100000
theorem assert_err (v : Value) (W : World) : (Instr.typeAssert (.iface 28 v) 20 28 true).run Try.prog W = .ok (.tuple #[v, .bool true]) W := by
 simp [Instr.typeAssert, run_underlying Try.underlying28, go_sem, Result.andThen]
set_option maxHeartbeats 4000000 in
theorem catch_err (p : Addr) (x : Value) (f : Int) (w : World) (hc : w.cell? p = some x) (hz : w.frozen? p = false) :
 CallsD Try.prog 143 #[.pointer (some p)] (.panicking (errCh f)) w fun e u' w' =>
  e = .returned (.tuple #[]) ∧ u' = .panicking [{ v := .iface 28 (.int .i64 f), recovered := true }] ∧ w' = w.setCell p (.int .i64 f) := by
 have hta := assert_err (.int .i64 f)
 refine callsD_of_wpS Try.func143 rfl fun c₀ cs hu => ?_
 apply wpS_seq
 apply wpS_region
 simp [wpOpsS, go_sem, recoverD, hu, Try.ntmps143, Exit.thenS]
 refine wpS_of_wp ?_
 go_wp2
 cases c₀
 simp_all [bodyPostS, results, Try.results143]
theorem catch_none (p : Addr) (w : World) :
 CallsD Try.prog 143 #[.pointer (some p)] .returning w fun e u' w' => e = .returned (.tuple #[]) ∧ u' = .returning ∧ w' = w := by
 refine callsD_of_wpS Try.func143 rfl fun c₀ cs hu => ?_
 apply wpS_seq
 apply wpS_region
 simp [wpOpsS, go_sem, recoverD, hu, Try.ntmps143, Exit.thenS]
 refine wpS_of_wp ?_
 go_wp2
 cases c₀
 simp_all [bodyPostS, results, Try.results143]
def ResAt (w : World) (R : Nat) (f : Int) : Prop := w.heap[R]? = some (.cells #[.int .i64 f] 28 (0, 0))
theorem ResAt.c0 {w : World} {R : Nat} {f : Int} (k : ResAt w R f) : w.cell? ⟨R, 0, none⟩ = some (.int .i64 f) := by simp [World.cell?, show w.heap[R]? = _ from k]
theorem ResAt.f {w : World} {R : Nat} {f : Int} (k : ResAt w R f) : w.frozen? ⟨R, 0, none⟩ = false := by simp [World.frozen?, show w.heap[R]? = _ from k]
theorem ResAt.put {w : World} {R : Nat} {f : Int} (k : ResAt w R f) (g : Int) : ResAt (w.setCell ⟨R, 0, none⟩ (.int .i64 g)) R g := by
 unfold ResAt World.setCell
 simp [Array.getElem?_modify, show w.heap[R]? = _ from k]
theorem ResAt.lt {w : World} {R : Nat} {f : Int} (k : ResAt w R f) : R < w.heap.size := (Array.getElem?_eq_some_iff.1 k).1
abbrev runW (w : World) (A : Option Addr) (n c : Nat) : World := (w.alloc (.cells #[.int .i64 0] 28)).alloc (.cells #[.slice A n c, .int .i64 0] 194)
set_option maxHeartbeats 8000000 in
theorem run_err (w : World) (A : Option Addr) (n c : Nat) (R T : Nat) (cr ct : Array Value) (f : Int) (J : World → Prop)
 (er : ∀ args w, (callFunc R args).run Try.prog w = .ok (.enter R args) w)
 (hread : Calls Try.prog R (#[.agg #[.pointer (some ⟨w.heap.size + 1, 0, none⟩)]] ++ cr) (runW w A n c) fun e w1 => e = .panicked (errCh f) ∧ ResAt w1 w.heap.size 0 ∧ J w1) :
 Calls Try.prog 92 #[.slice A n c, .func (.func R) #[] cr, .func (.func T) #[] ct] w fun e w' => e = .returned (.int .i64 f) ∧ ∃ w1, J w1 ∧ w' = w1.setCell ⟨w.heap.size, 0, none⟩ (.int .i64 f) := by
 have hmf : ∀ (fn : Fn) (first cap : Array Value) (w : World), (Instr.makeFunc fn first cap).run Try.prog w = .ok (.func fn first cap) w := fun _ _ _ _ => rfl
 have HR := Lib.hid hread
 clear hread
 go_enter_defers Try.func92, Try.ntmps92
 go_wp2_with (fail)
 refine HR.out.mono ?_
 rintro e w1 ⟨rfl, hres, hj⟩
 refine leaves_cons (f := 143) (args := #[.pointer (some ⟨w.heap.size, 0, none⟩)]) (by simp) (by simp [go_sem]) ?_
 refine (catch_err ⟨w.heap.size, 0, none⟩ _ f w1 hres.c0 hres.f).mono ?_
 rintro e u' w'' ⟨rfl, rfl, rfl⟩
 have hc := (hres.put f).c0
 simp [Leaves, settle, results, Try.results92, go_sem, hc]
 exact ⟨w1, hj, rfl⟩
set_option maxHeartbeats 8000000 in
theorem run_left (w : World) (A : Option Addr) (n c q : Nat) (R T : Nat) (cr ct : Array Value) (J : World → Prop) (hq : q < n)
 (er : ∀ args w, (callFunc R args).run Try.prog w = .ok (.enter R args) w)
 (hread : Calls Try.prog R (#[.agg #[.pointer (some ⟨w.heap.size + 1, 0, none⟩)]] ++ cr) (runW w A n c) fun e w1 => e = .returned (.tuple #[]) ∧ ResAt w1 w.heap.size 0 ∧ SpotAt w1 (w.heap.size + 1) A c n q ∧ J w1) :
 Calls Try.prog 92 #[.slice A n c, .func (.func R) #[] cr, .func (.func T) #[] ct] w fun e w' => e = .returned (.int .i64 4) ∧ ∃ w1, J w1 ∧ w' = w1.setCell ⟨w.heap.size, 0, none⟩ (.int .i64 4) := by
 have hmf : ∀ (fn : Fn) (first cap : Array Value) (w : World), (Instr.makeFunc fn first cap).run Try.prog w = .ok (.func fn first cap) w := fun _ _ _ _ => rfl
 have HR := Lib.hid hread
 clear hread
 have hlt : decide (q < n) = true := decide_eq_true hq
 have hlt2 : decide ((q : Int) < (n : Int)) = true := decide_eq_true (by omega)
 go_enter_defers Try.func92, Try.ntmps92
 go_wp2_with (fail)
 refine HR.out.mono ?_
 rintro e w1 ⟨rfl, hres, hs, hj⟩
 have d1 := hs.c1
 have HS := Lib.hid hs
 have HRS := Lib.hid hres
 clear hs hres
 go_wp2_with (go_at_call 144; refine (fail_yes _ _).mono ?_; rintro e w' ⟨rfl, rfl⟩)
 refine leaves_cons (f := 143) (args := #[.pointer (some ⟨w.heap.size, 0, none⟩)]) (by simp) (by simp [go_sem]) ?_
 refine (catch_err ⟨w.heap.size, 0, none⟩ _ 4 w1 HRS.out.c0 HRS.out.f).mono ?_
 rintro e u' w'' ⟨rfl, rfl, rfl⟩
 have hc := (HRS.out.put 4).c0
 simp [Leaves, settle, results, Try.results92, go_sem, hc]
 exact ⟨w1, hj, rfl⟩
set_option maxHeartbeats 8000000 in
theorem run_bad (w : World) (A : Option Addr) (n c : Nat) (R T : Nat) (cr ct : Array Value) (J : World → Prop) (er' : Int) (hne : er' ≠ 0)
 (er : ∀ args w, (callFunc R args).run Try.prog w = .ok (.enter R args) w) (et : ∀ args w, (callFunc T args).run Try.prog w = .ok (.enter T args) w)
 (hread : Calls Try.prog R (#[.agg #[.pointer (some ⟨w.heap.size + 1, 0, none⟩)]] ++ cr) (runW w A n c) fun e w1 => e = .returned (.tuple #[]) ∧ ResAt w1 w.heap.size 0 ∧ SpotAt w1 (w.heap.size + 1) A c n n ∧ J w1)
 (hright : ∀ w1, J w1 → Calls Try.prog T ct w1 fun e w2 => e = .returned (.int .i64 er') ∧ Below w1.heap.size w1 w2) :
 Calls Try.prog 92 #[.slice A n c, .func (.func R) #[] cr, .func (.func T) #[] ct] w fun e w' => e = .returned (.int .i64 4) ∧ ∃ w1 w2, J w1 ∧ Below w1.heap.size w1 w2 ∧ w' = w2.setCell ⟨w.heap.size, 0, none⟩ (.int .i64 4) := by
 have hmf : ∀ (fn : Fn) (first cap : Array Value) (w : World), (Instr.makeFunc fn first cap).run Try.prog w = .ok (.func fn first cap) w := fun _ _ _ _ => rfl
 have HR := Lib.hid hread
 have HT := Lib.hid hright
 clear hread hright
 have hneb : (er' != 0) = true := by simpa using hne
 go_enter_defers Try.func92, Try.ntmps92
 go_wp2_with (fail)
 refine HR.out.mono ?_
 rintro e w1 ⟨rfl, hres, hs, hj⟩
 have d1 := hs.c1
 have HS := Lib.hid hs
 have HRS := Lib.hid hres
 clear hs hres
 go_wp2_with (fail)
 refine (HT.out w1 hj).mono ?_
 rintro e w2 ⟨rfl, hb⟩
 have HS2 := Lib.hid (HS.out.below hb HS.out.lt)
 have hr2 : ResAt w2 w.heap.size 0 := (hb.block _ HRS.out.lt).trans HRS.out
 have HR2 := Lib.hid hr2
 have HBB := Lib.hid hb
 clear hr2 hb
 go_wp2_with (go_at_call 144; refine (fail_yes _ _).mono ?_; rintro e w' ⟨rfl, rfl⟩)
 refine leaves_cons (f := 143) (args := #[.pointer (some ⟨w.heap.size, 0, none⟩)]) (by simp) (by simp [go_sem]) ?_
 refine (catch_err ⟨w.heap.size, 0, none⟩ _ 4 w2 HR2.out.c0 HR2.out.f).mono ?_
 rintro e u' w'' ⟨rfl, rfl, rfl⟩
 have hc := (HR2.out.put 4).c0
 simp [Leaves, settle, results, Try.results92, go_sem, hc]
 exact ⟨w1, hj, w2, HBB.out, rfl⟩
set_option maxHeartbeats 8000000 in
theorem run_good (w : World) (A : Option Addr) (n c : Nat) (R T : Nat) (cr ct : Array Value) (J : World → Prop)
 (er : ∀ args w, (callFunc R args).run Try.prog w = .ok (.enter R args) w) (et : ∀ args w, (callFunc T args).run Try.prog w = .ok (.enter T args) w)
 (hread : Calls Try.prog R (#[.agg #[.pointer (some ⟨w.heap.size + 1, 0, none⟩)]] ++ cr) (runW w A n c) fun e w1 => e = .returned (.tuple #[]) ∧ ResAt w1 w.heap.size 0 ∧ SpotAt w1 (w.heap.size + 1) A c n n ∧ J w1)
 (hright : ∀ w1, J w1 → Calls Try.prog T ct w1 fun e w2 => e = .returned (.int .i64 0) ∧ Below w1.heap.size w1 w2) :
 Calls Try.prog 92 #[.slice A n c, .func (.func R) #[] cr, .func (.func T) #[] ct] w fun e w' => e = .returned (.int .i64 0) ∧ ∃ w1 w2, J w1 ∧ Below w1.heap.size w1 w2 ∧ w' = w2.setCell ⟨w.heap.size, 0, none⟩ (.int .i64 0) := by
 have hmf : ∀ (fn : Fn) (first cap : Array Value) (w : World), (Instr.makeFunc fn first cap).run Try.prog w = .ok (.func fn first cap) w := fun _ _ _ _ => rfl
 have HR := Lib.hid hread
 have HT := Lib.hid hright
 clear hread hright
 go_enter_defers Try.func92, Try.ntmps92
 go_wp2_with (fail)
 refine HR.out.mono ?_
 rintro e w1 ⟨rfl, hres, hs, hj⟩
 have d1 := hs.c1
 have HS := Lib.hid hs
 have HRS := Lib.hid hres
 clear hs hres
 go_wp2_with (fail)
 refine (HT.out w1 hj).mono ?_
 rintro e w2 ⟨rfl, hb⟩
 have HS2 := Lib.hid (HS.out.below hb HS.out.lt)
 have hr2 : ResAt w2 w.heap.size 0 := (hb.block _ HRS.out.lt).trans HRS.out
 have HR2 := Lib.hid hr2
 have HBB := Lib.hid hb
 have g0 := hr2.c0
 have gf := hr2.f
 clear hr2 hb
 go_wp2_with (go_at_call 144; refine (fail_no _ _).mono ?_; rintro e w' ⟨rfl, rfl⟩)
 refine leaves_cons (f := 143) (args := #[.pointer (some ⟨w.heap.size, 0, none⟩)]) (by simp) (by simp [go_sem]) ?_
 refine (catch_none ⟨w.heap.size, 0, none⟩ _).mono ?_
 rintro e u' w'' ⟨rfl, rfl, rfl⟩
 have hc := (HR2.out.put 0).c0
 simp [Leaves, settle, results, Try.results92, go_sem, hc]
 exact ⟨w1, hj, w2, HBB.out, rfl⟩
end Go.Proofs.Ytmbnjgnmblgjoaa.Man
end
section
namespace Go.Proofs.Ytmbnjgnmblgjoaa.Man
open Go.RowKit Go.Proofs.YtmbnjgnmblgjoaaW.PrintWords Go.Proofs.YtmbnjgnmblgjoaaW.PrintLast Go.Proofs.YtmbnjgnmblgjoaaW.PrintMore
set_option linter.unusedVariables false
set_option linter.unusedSimpArgs false
set_option maxRecDepth 100000
def RowAt (w : World) (V : Nat) (v : Value) : Prop := w.heap[V]? = some (.cells #[v] 22 (0, 0))
theorem RowAt.c0 {w : World} {V : Nat} {v : Value} (k : RowAt w V v) : w.cell? ⟨V, 0, none⟩ = some v := by simp [World.cell?, show w.heap[V]? = _ from k]
theorem RowAt.f {w : World} {V : Nat} {v : Value} (k : RowAt w V v) : w.frozen? ⟨V, 0, none⟩ = false := by simp [World.frozen?, show w.heap[V]? = _ from k]
theorem heap_set_ne (w : World) (B k j : Nat) (u : Value) (h : j ≠ B) : (w.setCell ⟨B, k, none⟩ u).heap[j]? = w.heap[j]? := Below.heap_setCell w ⟨B, k, none⟩ u j h
theorem TR.C {w : World} {base : Nat} {v : Value} {xs : List K.S111} (h : TR w base v xs) : ∃ A c, v = .slice A xs.length c ∧ xs.length ≤ c ∧ Kd.C K.k111 w A xs.length xs := Kd.R_reads h
theorem spot0 (w : World) (A : Option Addr) (n c : Nat) : SpotAt (runW w A n c) (w.heap.size + 1) A c n 0 := by
 have := World.alloc_heap_new (w.alloc (.cells #[.int .i64 0] 28)) (.cells #[.slice A n c, .int .i64 0] 194)
 rwa [World.size_alloc] at this
theorem res0 (w : World) (A : Option Addr) (n c : Nat) : ResAt (runW w A n c) w.heap.size 0 := (Below.heap_alloc _ _ _ (by simp)).trans (World.alloc_heap_new w _)
theorem runW_below (w : World) (A : Option Addr) (n c : Nat) : Below w.heap.size w (runW w A n c) := ((Below.refl _ _).alloc (Nat.le_refl _) _).alloc (by simp) _
theorem runW_size (w : World) (A : Option Addr) (n c : Nat) : (runW w A n c).heap.size = w.heap.size + 2 := by unfold runW; rw [World.size_alloc, World.size_alloc]
theorem enters_fn {f : Nat} {fn : Func} (hf : Try.prog.funcs[f]? = some fn) (hname : (fn.name == "runtime.NumGoroutine") = false) (hb : fn.body.isSome = true) : ∀ args w, (callFunc f args).run Try.prog w = .ok (.enter f args) w := fun args w => enters_ hf hname hb args w
theorem below_set_young {w w1 : World} (hb : Below w.heap.size w w1) (B k : Nat) (u : Value) (hB : w.heap.size ≤ B) : Below w.heap.size w (w1.setCell ⟨B, k, none⟩ u) := hb.setCell (p := ⟨B, k, none⟩) hB u
section
variable {w : World} {E : Nat} {a0 a1 a2 a3 a4 a5 a6 a7 a9 : Int} {v : Value}
theorem EntC.lt (h : EntC w E a0 a1 a2 a3 a4 a5 a6 a7 v a9) : E < w.heap.size := (Array.getElem?_eq_some_iff.1 h).1
theorem EntC.f (h : EntC w E a0 a1 a2 a3 a4 a5 a6 a7 v a9) (i : Nat) : w.frozen? ⟨E, i, none⟩ = false := by simp [World.frozen?, show w.heap[E]? = _ from h]
theorem EntC.put (h : EntC w E a0 a1 a2 a3 a4 a5 a6 a7 v a9) (i : Nat) (u : Value) {b0 b1 b2 b3 b4 b5 b6 b7 b9 : Int} {v' : Value}
 (he : (#[.int .i64 a0, .int .i64 a1, .int .i64 a2, .int .i64 a3, .int .i64 a4, .int .i64 a5, .int .i64 a6, .int .i64 a7, v, .int .i64 a9] : Array Value).setIfInBounds i u = #[.int .i64 b0, .int .i64 b1, .int .i64 b2, .int .i64 b3, .int .i64 b4, .int .i64 b5, .int .i64 b6, .int .i64 b7, v', .int .i64 b9]) :
 EntC (w.setCell ⟨E, i, none⟩ u) E b0 b1 b2 b3 b4 b5 b6 b7 v' b9 := by
 unfold EntC World.setCell
 unfold EntC at h
 have he2 := congrArg Array.toList he
 simp [Array.getElem?_modify, h]
 simpa using he2
theorem EntC.cells (h : EntC w E a0 a1 a2 a3 a4 a5 a6 a7 v a9) : w.cell? ⟨E, 0, none⟩ = some (.int .i64 a0) ∧ w.cell? ⟨E, 1, none⟩ = some (.int .i64 a1) ∧ w.cell? ⟨E, 2, none⟩ = some (.int .i64 a2) ∧ w.cell? ⟨E, 3, none⟩ = some (.int .i64 a3) ∧ w.cell? ⟨E, 4, none⟩ = some (.int .i64 a4) ∧
 w.cell? ⟨E, 5, none⟩ = some (.int .i64 a5) ∧ w.cell? ⟨E, 6, none⟩ = some (.int .i64 a6) ∧ w.cell? ⟨E, 7, none⟩ = some (.int .i64 a7) ∧ w.cell? ⟨E, 8, none⟩ = some v ∧ w.cell? ⟨E, 9, none⟩ = some (.int .i64 a9) := by
 simp [World.cell?, show w.heap[E]? = _ from h]
end
def setEnt (w : World) (E : Nat) (b0 b1 b2 b3 b4 b5 b6 b7 : Int) (u : Value) (b9 : Int) : World :=
 (((((((((w.setCell ⟨E, 0, none⟩ (.int .i64 b0)).setCell ⟨E, 1, none⟩ (.int .i64 b1)).setCell ⟨E, 2, none⟩ (.int .i64 b2)).setCell ⟨E, 3, none⟩ (.int .i64 b3)).setCell ⟨E, 4, none⟩ (.int .i64 b4)).setCell ⟨E, 5, none⟩ (.int .i64 b5)).setCell ⟨E, 6, none⟩ (.int .i64 b6)).setCell ⟨E, 7, none⟩ (.int .i64 b7)).setCell ⟨E, 8, none⟩ u).setCell ⟨E, 9, none⟩ (.int .i64 b9)
theorem EntC.set {w : World} {E : Nat} {a0 a1 a2 a3 a4 a5 a6 a7 a9 : Int} {v : Value} (h : EntC w E a0 a1 a2 a3 a4 a5 a6 a7 v a9) (b0 b1 b2 b3 b4 b5 b6 b7 : Int) (u : Value) (b9 : Int) : EntC (setEnt w E b0 b1 b2 b3 b4 b5 b6 b7 u b9) E b0 b1 b2 b3 b4 b5 b6 b7 u b9 :=
 (((((((((h.put 0 (.int .i64 b0) rfl).put 1 (.int .i64 b1) rfl).put 2 (.int .i64 b2) rfl).put 3 (.int .i64 b3) rfl).put 4 (.int .i64 b4) rfl).put 5 (.int .i64 b5) rfl).put 6 (.int .i64 b6) rfl).put 7 (.int .i64 b7) rfl).put 8 u rfl).put 9 (.int .i64 b9) rfl
theorem setEnt_ne (w : World) (E j : Nat) (b0 b1 b2 b3 b4 b5 b6 b7 : Int) (u : Value) (b9 : Int) (h : j ≠ E) : (setEnt w E b0 b1 b2 b3 b4 b5 b6 b7 u b9).heap[j]? = w.heap[j]? := by
 unfold setEnt
 rw [heap_set_ne _ _ _ _ _ h, heap_set_ne _ _ _ _ _ h, heap_set_ne _ _ _ _ _ h, heap_set_ne _ _ _ _ _ h, heap_set_ne _ _ _ _ _ h, heap_set_ne _ _ _ _ _ h, heap_set_ne _ _ _ _ _ h, heap_set_ne _ _ _ _ _ h, heap_set_ne _ _ _ _ _ h, heap_set_ne _ _ _ _ _ h]
theorem TR.setEnt {w : World} {base E : Nat} {v : Value} {xs : List K.S111} (h : TR w base v xs) (hE : E < base) (b0 b1 b2 b3 b4 b5 b6 b7 : Int) (u : Value) (b9 : Int) : TR (setEnt w E b0 b1 b2 b3 b4 b5 b6 b7 u b9) base v xs :=
 (((((((((h.set hE 0 _).set hE 1 _).set hE 2 _).set hE 3 _).set hE 4 _).set hE 5 _).set hE 6 _).set hE 7 _).set hE 8 _).set hE 9 _
theorem below_setEnt {w w1 : World} (hb : Below w.heap.size w w1) (E : Nat) (hE : w.heap.size ≤ E) (b0 b1 b2 b3 b4 b5 b6 b7 : Int) (u : Value) (b9 : Int) : Below w.heap.size w (setEnt w1 E b0 b1 b2 b3 b4 b5 b6 b7 u b9) :=
 below_set_young (below_set_young (below_set_young (below_set_young (below_set_young (below_set_young (below_set_young (below_set_young (below_set_young (below_set_young hb E 0 _ hE) E 1 _ hE) E 2 _ hE) E 3 _ hE) E 4 _ hE) E 5 _ hE) E 6 _ hE) E 7 _ hE) E 8 _ hE) E 9 _ hE
set_option maxHeartbeats 8000000 in
theorem getEnt1_err {w0 w : World} {P V c p : Nat} {A : Option Addr} {b : List Int} (hC : Kd.C (Kd.int .u8) w0 A b.length b) (hc : b.length ≤ c) (hB : areBytesN b = true) (hb : Below w0.heap.size w0 w) (hP : w0.heap.size ≤ P) (k : SpotAt w P A c b.length p) (hp : p ≤ b.length) (f : Int) (hres : rent (b.drop p) = .error f) :
 Calls Try.prog 93 (#[.agg #[.pointer (some ⟨P, 0, none⟩)]] ++ #[.pointer (some ⟨V, 0, none⟩)]) w fun e w' => e = .panicked (errCh f) ∧ w.grownBy w' (some P) := by
 have hPl := k.lt
 have hbx : Below w.heap.size w (w.alloc (.cells #[.pointer (some ⟨P, 0, none⟩)] 140)) := (Below.refl _ _).alloc (Nat.le_refl _) _
 have hd := sent_is hC hc hB (hb.trans (hbx.mono hb.size)) hP (k.below hbx hPl) hp
 rw [hres] at hd
 have HD := Lib.hid hd
 have HX := Lib.hid (grown_of_below hbx (some P))
 clear hC hB hb k hd hres hbx
 show Calls _ _ #[.agg #[.pointer (some ⟨P, 0, none⟩)], .pointer (some ⟨V, 0, none⟩)] _ _
 go_enter Try.func93, Try.ntmps93
 go_wp2_with (go_at_call 94; refine HD.out.mono ?_; rintro e w1 h1; obtain ⟨rfl, hg⟩ := h1.err_inv; have HG := Lib.hid (HX.out.trans hg); clear h1 hg)
 exact ⟨rfl, rfl, HG.out⟩
set_option maxHeartbeats 8000000 in
theorem getEnt1_ok {w0 w : World} {P V c p : Nat} {A : Option Addr} {b : List Int} (hC : Kd.C (Kd.int .u8) w0 A b.length b) (hc : b.length ≤ c) (hB : areBytesN b = true) (hb : Below w0.heap.size w0 w) (hP : w0.heap.size ≤ P) (k : SpotAt w P A c b.length p) (hp : p ≤ b.length) (x : K.S26) (r : List Int) (hres : rent (b.drop p) = .ok (x, r))
 {a0 a1 a2 a3 a4 a5 a6 a7 a9 : Int} {v : Value} (kv : EntC w V a0 a1 a2 a3 a4 a5 a6 a7 v a9) (hVP : V ≠ P) :
 Calls Try.prog 93 (#[.agg #[.pointer (some ⟨P, 0, none⟩)]] ++ #[.pointer (some ⟨V, 0, none⟩)]) w fun e w' => e = .returned (.tuple #[]) ∧ ∃ u w2, w' = setEnt w2 V x.f0 x.f1 x.f2.f0 x.f2.f1 x.f2.f2 x.f2.f3 x.f2.f4 x.f2.f5 u x.f2.f7 ∧ EntC w2 V a0 a1 a2 a3 a4 a5 a6 a7 v a9 ∧ TR w2 w.heap.size u x.f2.f6 ∧ SpotAt w2 P A c b.length (b.length - r.length) ∧ w.grownBy w2 (some P) := by
 have hPl := k.lt
 have hbx : Below w.heap.size w (w.alloc (.cells #[.pointer (some ⟨P, 0, none⟩)] 140)) := (Below.refl _ _).alloc (Nat.le_refl _) _
 have hd := sent_is hC hc hB (hb.trans (hbx.mono hb.size)) hP (k.below hbx hPl) hp
 rw [hres] at hd
 have HD := Lib.hid hd
 have HX := Lib.hid (grown_of_below hbx (some P))
 have HZ := Lib.hid hbx.size
 have HV := Lib.hid kv
 clear hC hB hb k hd hres hbx kv
 show Calls _ _ #[.agg #[.pointer (some ⟨P, 0, none⟩)], .pointer (some ⟨V, 0, none⟩)] _ _
 go_enter Try.func93, Try.ntmps93
 go_wp2_with (go_at_call 94; refine HD.out.mono ?_; rintro e w1 h1; obtain ⟨v1, rfl, ⟨u, rfl, ht⟩, hk, hg⟩ := h1.ok_inv; obtain ⟨A1, k1, rfl, _, _⟩ := ht.C; have HT := Lib.hid (Kd.R_lower ht HZ.out); have HK := Lib.hid hk; have HG := Lib.hid (HX.out.trans hg); have hv1 : EntC w1 V a0 a1 a2 a3 a4 a5 a6 a7 v a9 := (HG.out.block _ HV.out.lt (by intro e; exact hVP (Option.some.inj e))).trans HV.out; have HV1 := Lib.hid hv1; obtain ⟨v0, v1, v2, v3, v4, v5, v6, v7, v8, v9⟩ := hv1.cells; have vf := hv1.f; clear h1 ht hk hg hv1)
 go_end0
 exact ⟨rfl, _, w1, rfl, HV1.out, HT.out, HK.out, HG.out⟩
set_option maxHeartbeats 8000000 in
theorem getEnt2_is {w : World} {V base : Nat} {u : Value} {x : K.S26} (kv : EntC w V x.f0 x.f1 x.f2.f0 x.f2.f1 x.f2.f2 x.f2.f3 x.f2.f4 x.f2.f5 u x.f2.f7) (ht : TR w base u x.f2.f6) :
 Calls Try.prog 95 #[.pointer (some ⟨V, 0, none⟩)] w fun e w' => e = .returned (.int .i64 (entryE x)) ∧ Below w.heap.size w w' := by
 obtain ⟨A1, k1, rfl, hk1, hC⟩ := ht.C
 have HD := Lib.hid (entry_is x A1 k1 w hC hk1)
 obtain ⟨v0, v1, v2, v3, v4, v5, v6, v7, v8, v9⟩ := kv.cells
 clear kv ht hC
 go_enter Try.func95, Try.ntmps95
 go_wp2_with (go_at_call 87; refine HD.out.mono ?_; rintro e w1 ⟨rfl, hb⟩; have HB := Lib.hid hb; clear hb)
 go_ret
 exact ⟨rfl, HB.out⟩
end Go.Proofs.Ytmbnjgnmblgjoaa.Man
end
section
namespace Go.Proofs.Ytmbnjgnmblgjoaa.Man
open Go.RowKit Go.Proofs.YtmbnjgnmblgjoaaW.PrintWords Go.Proofs.YtmbnjgnmblgjoaaW.PrintLast Go.Proofs.YtmbnjgnmblgjoaaW.PrintMore
set_option linter.unusedVariables false
set_option linter.unusedSimpArgs false
set_option maxRecDepth 100000
theorem EntC.ne {w w1 : World} {E : Nat} {a0 a1 a2 a3 a4 a5 a6 a7 a9 : Int} {v : Value} (h : EntC w E a0 a1 a2 a3 a4 a5 a6 a7 v a9) (e : w1.heap[E]? = w.heap[E]?) : EntC w1 E a0 a1 a2 a3 a4 a5 a6 a7 v a9 := e.trans h
set_option maxHeartbeats 16000000 in
theorem getEntry_is (w : World) (A : Option Addr) (c : Nat) (b : List Int) (hC : Kd.C (Kd.int .u8) w A b.length b) (hc : b.length ≤ c) (hB : areBytesN b = true) :
 Calls Try.prog 23 #[.slice A b.length c] w fun e w' => ∃ r, e = .returned (.tuple #[r, .int .i64 (getEntryF b).2]) ∧ EntR w.heap.size (getEntryF b).1 r w' ∧ Below w.heap.size w w' := by
 have hmf : ∀ (fn : Fn) (first cap : Array Value) (w : World), (Instr.makeFunc fn first cap).run Try.prog w = .ok (.func fn first cap) w := fun _ _ _ _ => rfl
 obtain ⟨wV, hwV⟩ : ∃ wV, wV = (w.alloc (.cells #[.int .i64 0, .int .i64 0, .int .i64 0, .int .i64 0, .int .i64 0, .int .i64 0, .int .i64 0, .int .i64 0, .slice none 0 0, .int .i64 0] 26)).alloc (.cells #[.int .i64 0, .int .i64 0, .int .i64 0, .int .i64 0, .int .i64 0, .int .i64 0, .int .i64 0, .int .i64 0, .slice none 0 0, .int .i64 0] 26) := ⟨_, rfl⟩
 have hbV : Below w.heap.size w wV := by rw [hwV]; exact ((Below.refl _ _).alloc (Nat.le_refl _) _).alloc (by simp) _
 have hzV : wV.heap.size = w.heap.size + 2 := by rw [hwV, World.size_alloc, World.size_alloc]
 have hS : EntC wV w.heap.size 0 0 0 0 0 0 0 0 (.slice none 0 0) 0 := by rw [hwV]; exact (Below.heap_alloc _ _ _ (by simp)).trans (World.alloc_heap_new w _)
 have hV : EntC wV (w.heap.size + 1) 0 0 0 0 0 0 0 0 (.slice none 0 0) 0 := by rw [hwV]; have := World.alloc_heap_new (w.alloc (.cells #[.int .i64 0, .int .i64 0, .int .i64 0, .int .i64 0, .int .i64 0, .int .i64 0, .int .i64 0, .int .i64 0, .slice none 0 0, .int .i64 0] 26)) (.cells #[.int .i64 0, .int .i64 0, .int .i64 0, .int .i64 0, .int .i64 0, .int .i64 0, .int .i64 0, .int .i64 0, .slice none 0 0, .int .i64 0] 26); rwa [World.size_alloc] at this
 have hbr := runW_below wV A b.length c
 have hbR : Below w.heap.size w (runW wV A b.length c) := hbV.trans (hbr.mono hbV.size)
 have hrz := runW_size wV A b.length c
 have hVr : EntC (runW wV A b.length c) (w.heap.size + 1) 0 0 0 0 0 0 0 0 (.slice none 0 0) 0 := hV.ne (hbr.block _ hV.lt)
 have hSr : EntC (runW wV A b.length c) w.heap.size 0 0 0 0 0 0 0 0 (.slice none 0 0) 0 := hS.ne (hbr.block _ hS.lt)
 have hs := spot0 wV A b.length c
 have e1 := enters_fn Try.func93 (by kernel_rfl) rfl
 have e2 := enters_fn Try.func95 (by kernel_rfl) rfl
 have hR0 : ∀ {w1 : World}, (runW wV A b.length c).grownBy w1 (some (wV.heap.size + 1)) → ResAt w1 wV.heap.size 0 := fun hg => (hg.block _ (by rw [hrz]; omega) (by intro e; have := Option.some.inj e; omega)).trans (res0 wV A b.length c)
 have hS0 : ∀ {w1 : World}, (runW wV A b.length c).grownBy w1 (some (wV.heap.size + 1)) → EntC w1 w.heap.size 0 0 0 0 0 0 0 0 (.slice none 0 0) 0 := fun hg => hSr.ne (hg.block _ (by rw [hrz]; omega) (by intro e; have := Option.some.inj e; omega))
 have hbG : ∀ {w1 : World}, (runW wV A b.length c).grownBy w1 (some (wV.heap.size + 1)) → Below w.heap.size w w1 := fun hg => below_of_grown hbR hg (by omega)
 unfold getEntryF
 rcases hres : rent b with f | ⟨x, r⟩
 · have hd := getEnt1_err (V := w.heap.size + 1) hC hc hB hbR (by omega) hs (Nat.zero_le _) f (by rw [List.drop_zero]; exact hres)
   have hrun := run_err wV A b.length c 93 95 #[.pointer (some ⟨w.heap.size + 1, 0, none⟩)] #[.pointer (some ⟨w.heap.size + 1, 0, none⟩)] f (fun w1 => EntC w1 w.heap.size 0 0 0 0 0 0 0 0 (.slice none 0 0) 0 ∧ Below w.heap.size w w1) e1
    (hd.mono fun e w1 ⟨h1, h2⟩ => ⟨h1, hR0 h2, hS0 h2, hbG h2⟩)
   have hne := ErrNz.ent b f hres
   have hneb : (f != 0) = true := by simpa using hne
   rw [hzV, hwV] at hrun
   have HR := Lib.hid hrun
   unfold allF
   simp only
   have HZ : Hid (w.heap.size ≤ w.heap.size + 2) := Lib.hid (by omega)
   clear hC hB hwV hbV hzV hS hV hbr hbR hrz hVr hSr hs e1 e2 hR0 hS0 hbG hres hd hrun hne
   go_enter Try.func23, Try.ntmps23
   go_upto_region 4 with (go_at_call 92; refine HR.out.mono ?_; rintro e w1 ⟨rfl, w2, ⟨hs1, hj⟩, rfl⟩; have HJ := Lib.hid (below_set_young hj (w.heap.size + 2) 0 (.int .i64 f) HZ.out); have HS1 : Hid (EntC (w2.setCell ⟨w.heap.size + 2, 0, none⟩ (.int .i64 f)) w.heap.size 0 0 0 0 0 0 0 0 (.slice none 0 0) 0) := Lib.hid (hs1.ne (heap_set_ne w2 _ 0 _ _ (by omega))); obtain ⟨v0, v1, v2, v3, v4, v5, v6, v7, v8, v9⟩ := HS1.out.cells; have vf := HS1.out.f; clear hj hs1)
   go_wp2
   obtain ⟨z0, z1, z2, z3, z4, z5, z6, z7, z8, z9⟩ := (HS1.out.set 0 0 0 0 0 0 0 0 (.slice none 0 0) 0).cells
   unfold setEnt at z0 z1 z2 z3 z4 z5 z6 z7 z8 z9
   refine bodyPost_ret (v := .tuple #[.agg #[.int .i64 0, .int .i64 0, .int .i64 0, .int .i64 0, .int .i64 0, .int .i64 0, .int .i64 0, .int .i64 0, .slice none 0 0, .int .i64 0], .int .i64 f]) (by simp [results, Try.results23, go_sem, z0, z1, z2, z3, z4, z5, z6, z7, z8, z9]) rfl ?_
   exact ⟨_, rfl, ⟨_, rfl, Kd.R_nil _ _ _ _ _⟩, below_setEnt HJ.out w.heap.size (Nat.le_refl _) 0 0 0 0 0 0 0 0 (.slice none 0 0) 0⟩
 · have hd := getEnt1_ok hC hc hB hbR (by omega) hs (Nat.zero_le _) x r (by rw [List.drop_zero]; exact hres) hVr (by omega)
   have hbr1 := (rent_inv hB hres).1
   have hrl : r.length ≤ b.length := by rw [hbr1, List.length_append]; omega
   have hread : Calls Try.prog 93 (#[.agg #[.pointer (some ⟨wV.heap.size + 1, 0, none⟩)]] ++ #[.pointer (some ⟨w.heap.size + 1, 0, none⟩)]) (runW wV A b.length c) fun e w1 => e = .returned (.tuple #[]) ∧ ResAt w1 wV.heap.size 0 ∧ SpotAt w1 (wV.heap.size + 1) A c b.length (b.length - r.length) ∧ (∃ u, EntC w1 (w.heap.size + 1) x.f0 x.f1 x.f2.f0 x.f2.f1 x.f2.f2 x.f2.f3 x.f2.f4 x.f2.f5 u x.f2.f7 ∧ TR w1 (w.heap.size + 4) u x.f2.f6 ∧ EntC w1 w.heap.size 0 0 0 0 0 0 0 0 (.slice none 0 0) 0 ∧ Below w.heap.size w w1) := by
    refine hd.mono ?_
    rintro e w1 ⟨rfl, u, w2, rfl, hv2, ht, hk, hg⟩
    refine ⟨rfl, (setEnt_ne w2 _ _ _ _ _ _ _ _ _ _ _ _ (by omega)).trans (hR0 hg), (setEnt_ne w2 _ _ _ _ _ _ _ _ _ _ _ _ (by omega)).trans hk, u, hv2.set _ _ _ _ _ _ _ _ _ _, Kd.R_lower (ht.setEnt (by rw [hrz]; omega) _ _ _ _ _ _ _ _ _ _) (by rw [hrz]; omega), (hS0 hg).ne (setEnt_ne w2 _ _ _ _ _ _ _ _ _ _ _ _ (by omega)), below_setEnt (hbG hg) _ (Nat.le_succ _) _ _ _ _ _ _ _ _ _ _⟩
   have hright : ∀ w1, (∃ u, EntC w1 (w.heap.size + 1) x.f0 x.f1 x.f2.f0 x.f2.f1 x.f2.f2 x.f2.f3 x.f2.f4 x.f2.f5 u x.f2.f7 ∧ TR w1 (w.heap.size + 4) u x.f2.f6 ∧ EntC w1 w.heap.size 0 0 0 0 0 0 0 0 (.slice none 0 0) 0 ∧ Below w.heap.size w w1) → Calls Try.prog 95 #[.pointer (some ⟨w.heap.size + 1, 0, none⟩)] w1 fun e w2 => e = .returned (.int .i64 (entryE x)) ∧ Below w1.heap.size w1 w2 := by
    rintro w1 ⟨u, kv, ht, _⟩
    exact getEnt2_is kv ht
   unfold allF
   simp only
   by_cases hr : 0 < r.length
   · rw [if_pos (.inl hr)]
     have hrun := run_left wV A b.length c (b.length - r.length) 93 95 #[.pointer (some ⟨w.heap.size + 1, 0, none⟩)] #[.pointer (some ⟨w.heap.size + 1, 0, none⟩)] _ (by omega) e1 hread
     rw [hzV, hwV] at hrun
     have HR := Lib.hid hrun
     have HZ : Hid (w.heap.size ≤ w.heap.size + 2) := Lib.hid (by omega)
     clear hC hB hwV hbV hzV hS hV hbr hbR hrz hVr hSr hs e1 e2 hR0 hS0 hbG hres hd hrun hread hright hbr1
     go_enter Try.func23, Try.ntmps23
     go_upto_region 4 with (go_at_call 92; refine HR.out.mono ?_; rintro e w1 ⟨rfl, w2, ⟨u, _, _, hs1, hj⟩, rfl⟩; have HJ := Lib.hid (below_set_young hj (w.heap.size + 2) 0 (.int .i64 4) HZ.out); have HS1 : Hid (EntC (w2.setCell ⟨w.heap.size + 2, 0, none⟩ (.int .i64 4)) w.heap.size 0 0 0 0 0 0 0 0 (.slice none 0 0) 0) := Lib.hid (hs1.ne (heap_set_ne w2 _ 0 _ _ (by omega))); obtain ⟨v0, v1, v2, v3, v4, v5, v6, v7, v8, v9⟩ := HS1.out.cells; have vf := HS1.out.f; clear hj hs1)
     go_wp2
     obtain ⟨z0, z1, z2, z3, z4, z5, z6, z7, z8, z9⟩ := (HS1.out.set 0 0 0 0 0 0 0 0 (.slice none 0 0) 0).cells
     unfold setEnt at z0 z1 z2 z3 z4 z5 z6 z7 z8 z9
     refine bodyPost_ret (v := .tuple #[.agg #[.int .i64 0, .int .i64 0, .int .i64 0, .int .i64 0, .int .i64 0, .int .i64 0, .int .i64 0, .int .i64 0, .slice none 0 0, .int .i64 0], .int .i64 4]) (by simp [results, Try.results23, go_sem, z0, z1, z2, z3, z4, z5, z6, z7, z8, z9]) rfl ?_
     exact ⟨_, rfl, ⟨_, rfl, Kd.R_nil _ _ _ _ _⟩, below_setEnt HJ.out w.heap.size (Nat.le_refl _) 0 0 0 0 0 0 0 0 (.slice none 0 0) 0⟩
   · have hr0 : b.length - r.length = b.length := by omega
     rw [hr0] at hread
     by_cases h0 : entryE x = 0
     · rw [if_neg (by omega)]
       rw [h0] at hright
       have hrun := run_good wV A b.length c 93 95 #[.pointer (some ⟨w.heap.size + 1, 0, none⟩)] #[.pointer (some ⟨w.heap.size + 1, 0, none⟩)] _ e1 e2 hread hright
       rw [hzV, hwV] at hrun
       have HR := Lib.hid hrun
       have HZ : Hid (w.heap.size ≤ w.heap.size + 2) := Lib.hid (by omega)
       clear hC hB hwV hbV hzV hS hV hbr hbR hrz hVr hSr hs e1 e2 hR0 hS0 hbG hres hd hrun hread hright hbr1 hr hr0 h0
       go_enter Try.func23, Try.ntmps23
       go_upto_region 5 with (go_at_call 92; refine HR.out.mono ?_; rintro e w1 ⟨rfl, w2, w3, ⟨u, hv, ht, hs1, hj⟩, hb3, rfl⟩; obtain ⟨A1, k1, rfl, _, _⟩ := ht.C; have HJ := Lib.hid (below_set_young (hj.trans (hb3.mono hj.size)) (w.heap.size + 2) 0 (.int .i64 0) HZ.out); have HV3 : Hid (EntC (w3.setCell ⟨w.heap.size + 2, 0, none⟩ (.int .i64 0)) (w.heap.size + 1) x.f0 x.f1 x.f2.f0 x.f2.f1 x.f2.f2 x.f2.f3 x.f2.f4 x.f2.f5 (.slice A1 x.f2.f6.length k1) x.f2.f7) := Lib.hid (hv.ne ((heap_set_ne w3 _ 0 _ _ (by omega)).trans (hb3.block _ hv.lt))); have HS3 : Hid (EntC (w3.setCell ⟨w.heap.size + 2, 0, none⟩ (.int .i64 0)) w.heap.size 0 0 0 0 0 0 0 0 (.slice none 0 0) 0) := Lib.hid (hs1.ne ((heap_set_ne w3 _ 0 _ _ (by omega)).trans (hb3.block _ hs1.lt))); have HT : Hid (TR (w3.setCell ⟨w.heap.size + 2, 0, none⟩ (.int .i64 0)) (w.heap.size + 4) (.slice A1 x.f2.f6.length k1) x.f2.f6) := Lib.hid (TR.set (Kd.R_below ht hb3) (E := w.heap.size + 2) (by omega) 0 _); clear hv ht hj hb3 hs1)
       obtain ⟨w4, hw4⟩ : ∃ w4, w3.setCell ⟨w.heap.size + 2, 0, none⟩ (.int .i64 0) = w4 := ⟨_, rfl⟩
       rw [hw4] at HJ HV3 HS3 HT ⊢
       clear hw4
       obtain ⟨u0, u1, u2, u3, u4, u5, u6, u7, u8, u9⟩ := HV3.out.cells
       obtain ⟨s0, s1, s2, s3, s4, s5, s6, s7, s8, s9⟩ := HS3.out.cells
       have sf := HS3.out.f
       go_wp2
       obtain ⟨z0, z1, z2, z3, z4, z5, z6, z7, z8, z9⟩ := (HS3.out.set x.f0 x.f1 x.f2.f0 x.f2.f1 x.f2.f2 x.f2.f3 x.f2.f4 x.f2.f5 (.slice A1 x.f2.f6.length k1) x.f2.f7).cells
       unfold setEnt at z0 z1 z2 z3 z4 z5 z6 z7 z8 z9
       refine bodyPost_ret (v := .tuple #[.agg #[.int .i64 x.f0, .int .i64 x.f1, .int .i64 x.f2.f0, .int .i64 x.f2.f1, .int .i64 x.f2.f2, .int .i64 x.f2.f3, .int .i64 x.f2.f4, .int .i64 x.f2.f5, .slice A1 x.f2.f6.length k1, .int .i64 x.f2.f7], .int .i64 0]) (by simp [results, Try.results23, go_sem, z0, z1, z2, z3, z4, z5, z6, z7, z8, z9]) rfl ?_
       exact ⟨_, rfl, ⟨_, rfl, Kd.R_lower (HT.out.setEnt (E := w.heap.size) (by omega) _ _ _ _ _ _ _ _ _ _) (by omega)⟩, below_setEnt HJ.out w.heap.size (Nat.le_refl _) x.f0 x.f1 x.f2.f0 x.f2.f1 x.f2.f2 x.f2.f3 x.f2.f4 x.f2.f5 (.slice A1 x.f2.f6.length k1) x.f2.f7⟩
     · rw [if_pos (.inr h0)]
       have hrun := run_bad wV A b.length c 93 95 #[.pointer (some ⟨w.heap.size + 1, 0, none⟩)] #[.pointer (some ⟨w.heap.size + 1, 0, none⟩)] _ (entryE x) h0 e1 e2 hread hright
       rw [hzV, hwV] at hrun
       have HR := Lib.hid hrun
       have HZ : Hid (w.heap.size ≤ w.heap.size + 2) := Lib.hid (by omega)
       clear hC hB hwV hbV hzV hS hV hbr hbR hrz hVr hSr hs e1 e2 hR0 hS0 hbG hres hd hrun hread hright hbr1 hr hr0 h0
       go_enter Try.func23, Try.ntmps23
       go_upto_region 4 with (go_at_call 92; refine HR.out.mono ?_; rintro e w1 ⟨rfl, w2, w3, ⟨u, _, _, hs0, hj0⟩, hb3, rfl⟩; have hj := hj0.trans (hb3.mono hj0.size); have hs1 := hs0.ne (hb3.block _ hs0.lt); have HJ := Lib.hid (below_set_young hj (w.heap.size + 2) 0 (.int .i64 4) HZ.out); have HS1 : Hid (EntC (w3.setCell ⟨w.heap.size + 2, 0, none⟩ (.int .i64 4)) w.heap.size 0 0 0 0 0 0 0 0 (.slice none 0 0) 0) := Lib.hid (hs1.ne (heap_set_ne w3 _ 0 _ _ (by omega))); obtain ⟨v0, v1, v2, v3, v4, v5, v6, v7, v8, v9⟩ := HS1.out.cells; have vf := HS1.out.f; clear hj hs1)
       go_wp2
       obtain ⟨z0, z1, z2, z3, z4, z5, z6, z7, z8, z9⟩ := (HS1.out.set 0 0 0 0 0 0 0 0 (.slice none 0 0) 0).cells
       unfold setEnt at z0 z1 z2 z3 z4 z5 z6 z7 z8 z9
       refine bodyPost_ret (v := .tuple #[.agg #[.int .i64 0, .int .i64 0, .int .i64 0, .int .i64 0, .int .i64 0, .int .i64 0, .int .i64 0, .int .i64 0, .slice none 0 0, .int .i64 0], .int .i64 4]) (by simp [results, Try.results23, go_sem, z0, z1, z2, z3, z4, z5, z6, z7, z8, z9]) rfl ?_
       exact ⟨_, rfl, ⟨_, rfl, Kd.R_nil _ _ _ _ _⟩, below_setEnt HJ.out w.heap.size (Nat.le_refl _) 0 0 0 0 0 0 0 0 (.slice none 0 0) 0⟩
end Go.Proofs.Ytmbnjgnmblgjoaa.Man
end
section
namespace Go.Proofs.Ytmbnjgnmblgjoaa.Man
open Go.RowKit Go.Proofs.YtmbnjgnmblgjoaaW.PrintWords Go.Proofs.YtmbnjgnmblgjoaaW.PrintLast Go.Proofs.YtmbnjgnmblgjoaaW.PrintMore
set_option linter.unusedVariables false
set_option linter.unusedSimpArgs false
set_option maxRecDepth 100000
abbrev ER (w : World) (base : Nat) (v : Value) (xs : List K.S26) : Prop := Kd.R K.k26 26 w base (fun _ => True) v xs
theorem info_ent : (Try.prog.info? 26).map (fun i => (i.zero, i.size, i.bytes)) = some (some (.agg #[.int .i64 0, .int .i64 0, .int .i64 0, .int .i64 0, .int .i64 0, .int .i64 0, .int .i64 0, .int .i64 0, .slice none 0 0, .int .i64 0]), 10, 96) := by kernel_rfl
theorem ER.grown {w w1 : World} {base P : Nat} {v : Value} {xs : List K.S26} (h : ER w base v xs) (hg : w.grownBy w1 (some P)) (hP : P < base) : ER w1 base v xs :=
 Kd.R_mono (Kd.R_grown (Kd.R_bound h) hg (fun j hj e => by have h1 := hj.2.1; have h2 := Option.some.inj e; omega)) (fun _ _ => trivial)
theorem ER.set {w : World} {base E : Nat} {v : Value} {xs : List K.S26} (h : ER w base v xs) (hE : E < base) (k : Nat) (u : Value) : ER (w.setCell ⟨E, k, none⟩ u) base v xs := ER.grown h (grownBy_set w E k u (World.grownBy.refl w _)) hE
theorem ER.C {w : World} {base : Nat} {v : Value} {xs : List K.S26} (h : ER w base v xs) : ∃ A c, v = .slice A xs.length c ∧ xs.length ≤ c ∧ Kd.C K.k26 w A xs.length xs := Kd.R_reads h
theorem TR.tight {w : World} {base : Nat} {v : Value} {xs : List K.S111} (h : TR w base v xs) : Kd.R K.k111 111 w base (fun j => some j = v.ownBlock) v xs := Kd.R_tight rfl h
structure Kp2 (w W : World) (P V : Nat) : Prop where
 os : W.os = w.os
 tape : W.tape = w.tape
 output : W.output = w.output
 size : w.heap.size ≤ W.heap.size
 block : ∀ j, j < w.heap.size → j ≠ P → j ≠ V → W.heap[j]? = w.heap[j]?
def MsgC (w : World) (V : Nat) (a0 a1 a2 : Int) (v : Value) : Prop := w.heap[V]? = some (.cells #[.int .i64 a0, .int .i64 a1, .int .i64 a2, v] 71 (0, 0))
theorem MsgC.cells {w : World} {V : Nat} {a0 a1 a2 : Int} {v : Value} (h : MsgC w V a0 a1 a2 v) : w.cell? ⟨V, 0, none⟩ = some (.int .i64 a0) ∧ w.cell? ⟨V, 1, none⟩ = some (.int .i64 a1) ∧ w.cell? ⟨V, 2, none⟩ = some (.int .i64 a2) ∧ w.cell? ⟨V, 3, none⟩ = some v := by simp [World.cell?, show w.heap[V]? = _ from h]
theorem MsgC.f {w : World} {V : Nat} {a0 a1 a2 : Int} {v : Value} (h : MsgC w V a0 a1 a2 v) (i : Nat) : w.frozen? ⟨V, i, none⟩ = false := by simp [World.frozen?, show w.heap[V]? = _ from h]
structure MgS (w W : World) (P V : Nat) (A : Option Addr) (c n q : Nat) (a0 a1 a2 : Int) (v : Value) : Prop where
 spot : SpotAt W P A c n q
 ptr : PtrAt W w.heap.size P
 msg : MsgC W V a0 a1 a2 v
 kp : Kp2 w W P V
section
variable {w W W' : World} {P V c n q q' m : Nat} {A : Option Addr} {a0 a1 a2 b0 b1 b2 : Int} {v v' : Value}
end
def MgP (w : World) (P V : Nat) (A : Option Addr) (c : Nat) (b : List Int) (res : Rd MsgL) (e : Ending) (w' : World) : Prop :=
 Kp2 w w' P V ∧ match res with
 | .error f => e = .panicked (errCh f)
 | .ok (m, r) => e = .returned (.tuple #[]) ∧ ∃ v, MsgC w' V m.k m.who m.ver v ∧ ER w' w.heap.size v m.l ∧ SpotAt w' P A c b.length (b.length - r.length)
def msgR1.T : Bool × List (List Nat × List Nat) := (true, [([], []), ([0], [0]), ([1], [1]), ([], []), ([3], [3]), ([4, 2], [4]), ([], []), ([6], [6]), ([7, 5], [7]), ([0, 1, 2, 5, 8], []), ([9, 2, 8, 0, 1, 2, 5, 8], [2, 9]), ([0, 1, 2, 3, 4, 5, 8, 9, 10], []), ([11, 5, 10, 0, 1, 2, 3, 4, 5, 8, 9, 10], [5, 11]), ([0, 1, 2, 3, 4, 5, 6, 7, 8, 9, 10, 11, 12], []), ([13, 8, 12, 0, 1, 2, 3, 4, 5, 6, 7, 8, 9, 10, 11, 12], [8, 13])])
def msgR1.B : List Nat := [0, 1, 3, 0, 8, 31, 0, 64, 255, 511, 1023, 2047, 4095, 8191, 16383]
def msgR4.T : Bool × List (List Nat × List Nat) := (true, [([], []), ([0], [0]), ([], []), ([2], [2]), ([3], [3]), ([1, 4, 3], [1, 4]), ([0, 1, 2, 3, 4, 5], []), ([6, 5, 5, 0, 1, 2, 3, 4, 5], [5, 6])])
def msgR4.B : List Nat := [0, 1, 0, 4, 12, 31, 63, 127]
end Go.Proofs.Ytmbnjgnmblgjoaa.Man
end
section
namespace Go.Proofs.Ytmbnjgnmblgjoaa.Man
open Go.RowKit Go.Proofs.YtmbnjgnmblgjoaaW.PrintWords Go.Proofs.YtmbnjgnmblgjoaaW.PrintLast Go.Proofs.YtmbnjgnmblgjoaaW.PrintMore
set_option linter.unusedVariables false
set_option linter.unusedSimpArgs false
set_option maxRecDepth 100000
def setMsg (w : World) (E : Nat) (b0 b1 b2 : Int) (u : Value) : World :=
 (((w.setCell ⟨E, 0, none⟩ (.int .i64 b0)).setCell ⟨E, 1, none⟩ (.int .i64 b1)).setCell ⟨E, 2, none⟩ (.int .i64 b2)).setCell ⟨E, 3, none⟩ u
def MsgR (base : Nat) (m : MsgL) (r : Value) (w' : World) : Prop := ∃ u, r = .agg #[.int .i64 m.k, .int .i64 m.who, .int .i64 m.ver, u] ∧ ER w' base u m.l
end Go.Proofs.Ytmbnjgnmblgjoaa.Man
end
section
namespace Go.Proofs.Ytmbnjgnmblgjoaa.Man
open Go.RowKit Go.Proofs.YtmbnjgnmblgjoaaW.PrintWords Go.Proofs.YtmbnjgnmblgjoaaW.PrintLast Go.Proofs.YtmbnjgnmblgjoaaW.PrintMore
set_option linter.unusedVariables false
set_option linter.unusedSimpArgs false
set_option maxRecDepth 100000
attribute [local go_sem high] K.eqA111
abbrev stepV (x : K.S26) (A : Option Addr) (c : Nat) : Value := .agg #[.int .i64 x.f2.f0, .int .i64 x.f2.f1, .int .i64 x.f2.f2, .int .i64 x.f2.f3, .int .i64 x.f2.f4, .int .i64 x.f2.f5, .slice A x.f2.f6.length c, .int .i64 x.f2.f7]
end Go.Proofs.Ytmbnjgnmblgjoaa.Man
end
section
namespace Go.Proofs.Ytmbnjgnmblgjoaa.Man
open Go.RowKit Go.Proofs.YtmbnjgnmblgjoaaW.PrintWords Go.Proofs.YtmbnjgnmblgjoaaW.PrintLast Go.Proofs.YtmbnjgnmblgjoaaW.PrintMore
set_option linter.unusedVariables false
set_option linter.unusedSimpArgs false
set_option maxRecDepth 100000
def EC (w : World) (a : Addr) (x : K.S26) (A8 : Option Addr) (c8 : Nat) : Prop := w.cell? a = some (.int .i64 x.f0) ∧ w.cell? ⟨a.block, a.off + 1, none⟩ = some (.int .i64 x.f1) ∧ w.cell? ⟨a.block, a.off + 2, none⟩ = some (.int .i64 x.f2.f0) ∧ w.cell? ⟨a.block, a.off + 3, none⟩ = some (.int .i64 x.f2.f1) ∧ w.cell? ⟨a.block, a.off + 4, none⟩ = some (.int .i64 x.f2.f2) ∧ w.cell? ⟨a.block, a.off + 5, none⟩ = some (.int .i64 x.f2.f3) ∧ w.cell? ⟨a.block, a.off + 6, none⟩ = some (.int .i64 x.f2.f4) ∧ w.cell? ⟨a.block, a.off + 7, none⟩ = some (.int .i64 x.f2.f5) ∧ w.cell? ⟨a.block, a.off + 8, none⟩ = some (.slice A8 x.f2.f6.length c8) ∧ w.cell? ⟨a.block, a.off + 9, none⟩ = some (.int .i64 x.f2.f7)
theorem EC.below {w W : World} {a : Addr} {x : K.S26} {A8 : Option Addr} {c8 : Nat} (h : EC w a x A8 c8) (hb : Below w.heap.size w W) : EC W a x A8 c8 := by
 obtain ⟨h0, h1, h2, h3, h4, h5, h6, h7, h8, h9⟩ := h
 exact ⟨pw_cell_below hb h0, pw_cell_below hb h1, pw_cell_below hb h2, pw_cell_below hb h3, pw_cell_below hb h4, pw_cell_below hb h5, pw_cell_below hb h6, pw_cell_below hb h7, pw_cell_below hb h8, pw_cell_below hb h9⟩
theorem EC.at {w : World} {A : Option Addr} {n : Nat} {xs : List K.S26} (h : Kd.C K.k26 w A n xs) (i : Nat) (hi : i < n) : ∃ ad A8 c8, A = some ad ∧ EC w (ad.add (i * 10)) (K.rd_T26 xs i) A8 c8 ∧ (K.rd_T26 xs i).f2.f6.length ≤ c8 ∧ Kd.C K.k111 w A8 (K.rd_T26 xs i).f2.f6.length (K.rd_T26 xs i).f2.f6 := by
 obtain ⟨ad, A8, c8, e, h0, h1, h2, h3, h4, h5, h6, h7, h8, h9, hl, hc⟩ := K.at_T26 h (i : Int) (by omega) (by omega)
 rw [Int.toNat_natCast] at h0 h1 h2 h3 h4 h5 h6 h7 h8 h9
 exact ⟨ad, A8, c8, e, ⟨h0, h1, h2, h3, h4, h5, h6, h7, h8, h9⟩, hl, hc⟩
def entR6.T : Bool × List (List Nat × List Nat) := (true, [([], []), ([], []), ([0, 1], [0, 1]), ([2], [2]), ([3], [3]), ([], []), ([], []), ([5, 6], [5, 6]), ([7], [7]), ([8], [8]), ([4, 9], [4, 9]), ([10], [10]), ([11], [11]), ([11], [11]), ([12, 13, 11], [11, 12, 13]), ([14, 11], [11, 14]), ([15, 11], [11, 15]), ([11], [11]), ([11], [11]), ([17, 18, 11], [11, 17, 18]), ([19, 11], [11, 19]), ([20, 11], [11, 20]), ([16, 21, 11], [11, 16, 21]), ([11, 22], [11, 22]), ([23, 11], [23]), ([24], [24]), ([24], [24]), ([25, 26, 24], [24, 25, 26]), ([27, 24], [24, 27]), ([28, 24], [24, 28]), ([24], [24]), ([24], [24]), ([30, 31, 24], [24, 30, 31]), ([32, 24], [24, 32]), ([33, 24], [24, 33]), ([29, 34, 24, 24], [24, 29, 34]), ([35, 24], [24, 35]), ([24, 36], [24, 36])])
def entR6.B : List Nat := [0, 0, 3, 7, 15, 0, 0, 96, 224, 480, 1023, 2047, 4095, 4095, 16383, 32767, 65535, 4095, 4095, 397311, 921599, 1970175, 4194303, 8388607, 16777215, 33554431, 33554431, 134217727, 268435455, 536870911, 33554431, 33554431, 3254779903, 7549747199, 16139681791, 34359738367, 68719476735, 137438953471]
end Go.Proofs.Ytmbnjgnmblgjoaa.Man
end
section
namespace Go.Proofs.Ytmbnjgnmblgjoaa.Man
open Go.RowKit Go.Proofs.YtmbnjgnmblgjoaaW.PrintWords Go.Proofs.YtmbnjgnmblgjoaaW.PrintLast Go.Proofs.YtmbnjgnmblgjoaaW.PrintMore
set_option linter.unusedVariables false
set_option linter.unusedSimpArgs false
set_option maxRecDepth 100000
theorem bytes_app {a b : List Int} (ha : areBytesN a = true) (hb : areBytesN b = true) : areBytesN (a ++ b) = true := by
 unfold areBytesN at *
 rw [List.all_append, ha, hb]
 rfl
theorem bytes_flat {α : Type} (f : α → List Int) (h : ∀ x, areBytesN (f x) = true) : ∀ l : List α, areBytesN (l.flatMap f) = true
 | [] => rfl
 | x :: l => by rw [List.flatMap_cons]; exact bytes_app (h x) (bytes_flat f h l)
theorem tokB_bytes (x : K.S111) : areBytesN (tokB x) = true := by
 unfold tokB
 refine bytes_app (vb_bytes _) ?_
 split
 · exact vb_bytes _
 · split
   · exact vb_bytes _
   · rfl
theorem docB_bytes (l : List K.S111) : areBytesN (docB l) = true := bytes_app (vb_bytes _) (bytes_flat _ tokB_bytes l)
theorem entryB_bytes (x : K.S26) : areBytesN (entryB x) = true := by
 unfold entryB
 refine bytes_app (vbs_bytes _) ?_
 split
 · exact vbs_bytes _
 · split
   · exact bytes_app (vbs_bytes _) (docB_bytes _)
   · exact docB_bytes _
end Go.Proofs.Ytmbnjgnmblgjoaa.Man
end
section
namespace Go.Proofs.Ytmbnjgnmblgjoaa.Man
open Go.RowKit Go.Proofs.YtmbnjgnmblgjoaaW.PrintWords Go.Proofs.YtmbnjgnmblgjoaaW.PrintLast Go.Proofs.YtmbnjgnmblgjoaaW.PrintMore
set_option linter.unusedVariables false
set_option linter.unusedSimpArgs false
def entF (x : K.S26) : List Int := frameF (entryB x)
def Fine (x : K.S26) : Prop := entryE x = 0 ∧ (entryB x).length ≤ 65536
def flatE (xs : List K.S26) : List Int := xs.flatMap entF
def endsE (p : Nat) : List K.S26 → List Int
 | [] => []
 | x :: xs => ((p + (entF x).length : Nat) : Int) :: endsE (p + (entF x).length) xs
def Stop (r : List Int) : Prop := (openF r 0).2.2 ≠ 0 ∨ (getEntryF (openF r 0).1).2 ≠ 0
structure LogOf (b : List Int) (xs : List K.S26) (r : List Int) : Prop where
 eq : b = flatE xs ++ r
 fine : ∀ x ∈ xs, Fine x
 stop : Stop r
theorem flatE_nil : flatE [] = [] := rfl
theorem flatE_cons (x : K.S26) (xs : List K.S26) : flatE (x :: xs) = entF x ++ flatE xs := rfl
theorem flatE_append (xs ys : List K.S26) : flatE (xs ++ ys) = flatE xs ++ flatE ys := List.flatMap_append
theorem flatE_snoc (xs : List K.S26) (x : K.S26) : flatE (xs ++ [x]) = flatE xs ++ entF x := by rw [flatE_append, flatE_cons, flatE_nil, List.append_nil]
theorem entF_bytes (x : K.S26) : areBytesN (entF x) = true := frameF_bytes _ (entryB_bytes x)
theorem flatE_bytes (xs : List K.S26) : areBytesN (flatE xs) = true := bytes_flat _ entF_bytes xs
theorem entF_pos (x : K.S26) : 5 ≤ (entF x).length := by
 unfold entF
 rw [frameF_length]
 have := vb_length_pos (entryB x).length
 omega
theorem entF_le {x : K.S26} (h : Fine x) : (entF x).length ≤ 65543 := by
 unfold entF
 rw [frameF_length]
 have h1 := vb_length_le 2 (entryB x).length (by have := h.2; omega)
 have := h.2
 omega
theorem endsE_snoc (x : K.S26) : ∀ (p : Nat) (xs : List K.S26), endsE p (xs ++ [x]) = endsE p xs ++ [((p + (flatE (xs ++ [x])).length : Nat) : Int)]
 | p, [] => by simp [endsE, flatE]
 | p, y :: xs => by
  rw [List.cons_append, endsE, endsE_snoc x, endsE, List.cons_append, flatE_cons, List.length_append, Nat.add_assoc]
theorem endsE_append (ys : List K.S26) : ∀ (p : Nat) (xs : List K.S26), endsE p (xs ++ ys) = endsE p xs ++ endsE (p + (flatE xs).length) ys
 | p, [] => by simp [endsE, flatE]
 | p, y :: xs => by
  rw [List.cons_append, endsE, endsE_append ys, endsE, List.cons_append, flatE_cons, List.length_append, Nat.add_assoc]
theorem endsE_length : ∀ (p : Nat) (xs : List K.S26), (endsE p xs).length = xs.length
 | _, [] => rfl
 | p, y :: xs => by rw [endsE, List.length_cons, endsE_length, List.length_cons]
theorem endsE_take : ∀ (n p : Nat) (xs : List K.S26), (endsE p xs).take n = endsE p (xs.take n)
 | 0, p, xs => by simp [endsE]
 | n + 1, p, [] => by simp [endsE]
 | n + 1, p, x :: xs => by rw [endsE, List.take_succ_cons, endsE_take n, List.take_succ_cons, endsE]
theorem endsE_get : ∀ (i p : Nat) (xs : List K.S26), i < xs.length → (endsE p xs).getD i 0 = ((p + (flatE (xs.take (i + 1))).length : Nat) : Int)
 | _, _, [], h => absurd h (Nat.not_lt_zero _)
 | 0, p, x :: xs, _ => by simp [endsE, flatE]
 | i + 1, p, x :: xs, h => by
  rw [endsE, List.getD_cons_succ, endsE_get i _ xs (by simpa using h), List.take_succ_cons, flatE_cons, List.length_append, Nat.add_assoc]
theorem flat_len_le (xs : List K.S26) (n : Nat) : (flatE (xs.take n)).length ≤ (flatE xs).length := by
 have h : flatE xs = flatE (xs.take n) ++ flatE (xs.drop n) := by rw [← flatE_append, List.take_append_drop]
 rw [h, List.length_append]; omega
theorem flat_len_ge (xs : List K.S26) : 5 * xs.length ≤ (flatE xs).length := by
 induction xs with
 | nil => simp [flatE]
 | cons x xs ih => rw [flatE_cons, List.length_append, List.length_cons]; have := entF_pos x; omega
theorem bytes_take {l : List Int} (h : areBytesN l = true) (n : Nat) : areBytesN (l.take n) = true := by
 unfold areBytesN at *
 rw [List.all_eq_true] at *
 exact fun x hx => h x (List.mem_of_mem_take hx)
theorem bytes_drop {l : List Int} (h : areBytesN l = true) (n : Nat) : areBytesN (l.drop n) = true := by
 unfold areBytesN at *
 rw [List.all_eq_true] at *
 exact fun x hx => h x (List.mem_of_mem_drop hx)
theorem stop_nil : Stop [] := .inl (by rw [openF_empty]; decide)
theorem log_exists : ∀ (n : Nat) (b : List Int), b.length ≤ n → areBytesN b = true → ∃ xs r, LogOf b xs r
 | 0, b, hn, _ => by
  obtain rfl : b = [] := List.eq_nil_of_length_eq_zero (by omega)
  exact ⟨[], [], rfl, fun x h => (by cases h), stop_nil⟩
 | n + 1, b, hn, hB => by
  by_cases hs : Stop b
  · exact ⟨[], b, rfl, fun x h => (by cases h), hs⟩
  · unfold Stop at hs
    have h1 : (openF b 0).2.2 = 0 := Classical.byContradiction fun h => hs (.inl h)
    have h2 : (getEntryF (openF b 0).1).2 = 0 := Classical.byContradiction fun h => hs (.inr h)
    obtain ⟨⟨y, nx, e⟩, ho⟩ : ∃ p, openF b 0 = p := ⟨_, rfl⟩
    rw [ho] at h1 h2
    simp only at h1 h2
    subst h1
    obtain ⟨hy, hyB, rfl, rest, hb⟩ := openF_inv b y nx hB ho
    obtain ⟨⟨x, e2⟩, hx⟩ : ∃ p, getEntryF y = p := ⟨_, rfl⟩
    rw [hx] at h2
    simp only at h2
    subst h2
    obtain ⟨hx0, hxb⟩ := getEntry_one hyB hx
    have hfl := frameF_length y
    subst hb
    have hR : areBytesN rest = true := by have := bytes_drop hB (frameF y).length; rwa [List.drop_left] at this
    obtain ⟨xs, r, hl⟩ := log_exists n rest (by rw [List.length_append] at hn; omega) hR
    refine ⟨x :: xs, r, ?_, ?_, hl.stop⟩
    · rw [flatE_cons, List.append_assoc, ← hl.eq]
      unfold entF
      rw [hxb]
    · intro z hz
      rcases List.mem_cons.1 hz with rfl | hz
      · exact ⟨hx0, by rw [hxb]; exact hy⟩
      · exact hl.fine z hz
theorem LogOf.open_at {b : List Int} {xs pre suf : List K.S26} {x : K.S26} {r : List Int} (h : LogOf b xs r) (hB : areBytesN b = true) (e : xs = pre ++ x :: suf) :
 openF b ((flatE pre).length : Int) = (entryB x, ((flatE (pre ++ [x])).length : Int), 0) ∧ getEntryF (entryB x) = (x, 0) := by
 have hf := h.fine x (by rw [e]; simp)
 have hb : b = flatE pre ++ (entF x ++ (flatE suf ++ r)) := by rw [h.eq, e, flatE_append, flatE_cons]; simp
 have hl : (flatE pre).length ≤ b.length := by rw [hb, List.length_append]; omega
 have h1 := openF_drop b (flatE pre).length 0 hl hB (by decide)
 have h2 : b.drop (flatE pre).length = frameF (entryB x) ++ (flatE suf ++ r) := by rw [hb, List.drop_left]; rfl
 have h3 := openF_frame (entryB x) (flatE suf ++ r) (entryB_bytes x) hf.2
 rw [h2, h3, Int.add_zero] at h1
 refine ⟨?_, getEntry_put hf.1⟩
 obtain ⟨⟨y, nx, e2⟩, ho⟩ : ∃ p, openF b ((flatE pre).length : Int) = p := ⟨_, rfl⟩
 rw [ho] at h1 ⊢
 simp only [Prod.mk.injEq] at h1
 obtain ⟨rfl, h4, rfl⟩ := h1
 rw [flatE_snoc, List.length_append]
 unfold entF
 simp only [Prod.mk.injEq, true_and, and_true]
 omega
theorem LogOf.open_end {b : List Int} {xs : List K.S26} {r : List Int} (h : LogOf b xs r) (hB : areBytesN b = true) :
 (openF b ((flatE xs).length : Int)).2.2 ≠ 0 ∨ (getEntryF (openF b ((flatE xs).length : Int)).1).2 ≠ 0 := by
 have hl : (flatE xs).length ≤ b.length := by rw [h.eq, List.length_append]; omega
 have h1 := openF_drop b (flatE xs).length 0 hl hB (by decide)
 have h2 : b.drop (flatE xs).length = r := by rw [h.eq, List.drop_left]
 rw [h2, Int.add_zero] at h1
 have h3 := h.stop
 unfold Stop at h3
 rw [h1] at h3
 exact h3
theorem LogOf.len {b : List Int} {xs : List K.S26} {r : List Int} (h : LogOf b xs r) : (flatE xs).length ≤ b.length := by rw [h.eq, List.length_append]; omega
theorem LogOf.take {b : List Int} {xs : List K.S26} {r : List Int} (h : LogOf b xs r) : b.take (flatE xs).length = flatE xs := by rw [h.eq, List.take_left]
theorem log_cut : ∀ (xs : List K.S26) (n : Nat), (∀ x ∈ xs, Fine x) → n ≤ (flatE xs).length → ∃ k r, k ≤ xs.length ∧ LogOf ((flatE xs).take n) (xs.take k) r ∧ (∀ m, m ≤ xs.length → (flatE (xs.take m)).length ≤ n → m ≤ k)
 | [], n, _, _ => ⟨0, [], Nat.le_refl _, ⟨by simp [flatE], fun x h => (by simp at h), stop_nil⟩, fun m hm _ => by simpa using hm⟩
 | x :: xs, n, hF, hn => by
  have hx := hF x List.mem_cons_self
  by_cases hlt : n < (entF x).length
  · refine ⟨0, (entF x).take n, Nat.zero_le _, ⟨?_, fun y h => (by simp at h), .inl ?_⟩, fun m hm hml => ?_⟩
    · rw [flatE_cons, List.take_append_of_le_length (by omega)]; rfl
    · have := openF_short (entryB x) hx.2 n hlt
      rw [show (entF x).take n = (frameF (entryB x)).take n from rfl, this]
      decide
    · rcases m with _ | m
      · exact Nat.le_refl _
      · rw [List.take_succ_cons, flatE_cons, List.length_append] at hml
        omega
  · rw [flatE_cons, List.length_append] at hn
    obtain ⟨k, r, hk, hl, hm⟩ := log_cut xs (n - (entF x).length) (fun y hy => hF y (List.mem_cons_of_mem _ hy)) (by omega)
    refine ⟨k + 1, r, by rw [List.length_cons]; omega, ⟨?_, ?_, hl.stop⟩, fun m hm' hml => ?_⟩
    · rw [flatE_cons, List.take_append, List.take_of_length_le (by omega), hl.eq, List.take_succ_cons, flatE_cons, List.append_assoc]
    · intro y hy
      rw [List.take_succ_cons] at hy
      rcases List.mem_cons.1 hy with rfl | hy
      · exact hx
      · exact hl.fine y hy
    · rcases m with _ | m
      · omega
      · rw [List.take_succ_cons, flatE_cons, List.length_append] at hml
        have := hm m (by simpa using hm') (by omega)
        omega
end Go.Proofs.Ytmbnjgnmblgjoaa.Man
end
section
namespace Go.Proofs.Ytmbnjgnmblgjoaa.Man
open Go.RowKit Go.Shelf Go.Proofs.YtmbnjgnmblgjoaaW.PrintWords Go.Proofs.YtmbnjgnmblgjoaaW.PrintLast Go.Proofs.YtmbnjgnmblgjoaaW.PrintMore
set_option linter.unusedVariables false
set_option linter.unusedSimpArgs false
set_option maxRecDepth 100000
theorem wide_fn_ (k : Nat) : Fence.wide.fn k = True := rfl
attribute [local go_sem] wide_fn_
structure Fed where
 nx : Nat
 x : K.S26
 A : Option Addr
 c : Nat
abbrev Fed.encs (f : Fed) : Array Value := #[.int .i64 f.nx, .agg #[.int .i64 f.x.f0, .int .i64 f.x.f1, .int .i64 f.x.f2.f0, .int .i64 f.x.f2.f1, .int .i64 f.x.f2.f2, .int .i64 f.x.f2.f3, .int .i64 f.x.f2.f4, .int .i64 f.x.f2.f5, .slice f.A f.x.f2.f6.length f.c, .int .i64 f.x.f2.f7]]
def fedX (l : List Fed) : List K.S26 := l.map Fed.x
def FedN (base : Nat) (xs : List K.S26) (pre : List Fed) (f : Fed) (W : World) : Prop :=
 fedX pre ++ [f.x] <+: xs ∧ f.nx = (flatE (fedX pre ++ [f.x])).length ∧ f.x.f2.f6.length ≤ f.c ∧ TR W base (.slice f.A f.x.f2.f6.length f.c) f.x.f2.f6
def FedK (Bb : Nat) (A : Option Addr) (X Y : World) : Prop := Y.heap[Bb]? = X.heap[Bb]? ∧ ∀ ad, A = some ad → Y.heap[ad.block]? = X.heap[ad.block]?
theorem openF_bytes (b : List Int) (p : Int) (hB : areBytesN b = true) : areBytesN (openF b p).1 = true := by
 unfold openF
 split
 · rfl
 · split
   · rfl
   · split
     · rfl
     · split
       · rfl
       · exact bytes_drop (bytes_take hB _) _
theorem frames_any (A : Option Addr) (n c : Nat) (w : World) : Calls Try.prog 135 #[.slice A n c] w fun e w' => e = .returned (.func (.func 157) #[] #[.pointer (some ⟨w.heap.size, 0, none⟩)]) ∧ w' = w.alloc (.cells #[.slice A n c] 27) := by
 go_enter Try.func135, Try.ntmps135
 go_wp2
 go_ret
 exact ⟨rfl, rfl⟩
set_option maxHeartbeats 8000000 in
theorem frames1_in (k : Nat) (hk : 1 ≤ k) (l Bb base : Nat) (A : Option Addr) (c : Nat) (b : List Int) (xs : List K.S26) (r : List Int) (hL : LogOf b xs r) (hB : areBytesN b = true) (hc : b.length ≤ c) (hl : b.length ≤ 262144)
 (J : List Fed → World → Prop) (hJ : ∀ s X Y, J s X → Below X.heap.size X Y → J s Y)
 (hY : ∀ pre f W, J pre W → FedN base xs pre f W → YieldAt Fence.wide (k - 1) Try.prog l f.encs W fun e W' => e = .returned (.bool true) ∧ J (pre ++ [f]) W' ∧ FedK Bb A W W')
 (W : World) (hbase : base ≤ W.heap.size) (hBox : Boxed W Bb 27 (.slice A b.length c)) (hC : Kd.C (Kd.int .u8) W A b.length b) (h0 : J [] W) (hJs : ∀ s X, J s X → base ≤ X.heap.size) :
 CallsIn Fence.wide k Try.prog 157 #[.func (.yield l) #[] #[], .pointer (some ⟨Bb, 0, none⟩)] W fun e W' => (∃ v, e = .returned v) ∧ ∃ ys, fedX ys = xs ∧ J ys W' := by
 have HL := Lib.hid hL
 have HB := Lib.hid hB
 have HJ := Lib.hid hJ
 have HY := Lib.hid hY
 have HS := Lib.hid hJs
 have HX := Lib.hid hBox
 have HC := Lib.hid hC
 clear hL hB hJ hY hJs hBox hC
 refine callsIn_of_wp Try.func157 rfl trivial ?_ rfl
 simp only [Try.ntmps157, List.size_toArray, List.length_cons, List.length_nil, Nat.reduceAdd, Nat.reduceSub, Array.replicate_succ, Array.replicate_zero, List.push_toArray, List.append_toArray, List.nil_append, List.cons_append]
 gi_wp2
 gi_loopw [3] (fun s3 wr => ∃ (pre : List Fed) (suf : List K.S26) (p : Nat), s3 = .int .i64 p ∧ Hid (fedX pre ++ suf = xs) ∧ Hid ((flatE (fedX pre)).length = p) ∧ p ≤ b.length ∧ Hid (Boxed wr Bb 27 (.slice A b.length c)) ∧ Hid (Kd.C (Kd.int .u8) wr A b.length b) ∧ Hid (J pre wr))
  (fun s3 _ => b.length - (intOf s3).toNat)
 case atStart => exact ⟨[], xs, 0, rfl, Lib.hid rfl, Lib.hid rfl, Nat.zero_le _, HX, HC, Lib.hid h0⟩
 case round =>
  clear HX HC h0
  obtain ⟨pre, suf, p, rfl, HE, HP, hp, HX, HC, HJR⟩ := hrel
  have cB := HX.out.cell
  have HO := Lib.hid (open_any A c b (p : Int) wr HC.out hc HB.out (by omega))
  cases suf with
  | nil =>
   have hend := HL.out.open_end HB.out
   have he := HE.out
   rw [List.append_nil] at he
   rw [← he, HP.out] at hend
   by_cases hlt : p < b.length
   · obtain ⟨⟨y, nx, er⟩, ho⟩ : ∃ q, openF b (p : Int) = q := ⟨_, rfl⟩
     have hO := HO.out
     rw [ho] at hend hO
     simp only at hend hO
     have HOY := Lib.hid ho
     have HEN := Lib.hid hend
     have HO2 := Lib.hid hO
     have HEE := Lib.hid he
     clear hend hO ho HO he
     by_cases h1 : er = 0
     · have t1 : (er != 0) = false := by simpa using h1
       have HE1 := Lib.hid (HEN.out.resolve_left (fun h => h h1))
       obtain ⟨⟨x, e2⟩, hx⟩ : ∃ q, getEntryF y = q := ⟨_, rfl⟩
       have hne := HE1.out
       rw [hx] at hne
       simp only at hne
       have t2 : (e2 != 0) = true := by simpa using hne
       have HGX := Lib.hid hx
       clear hx hne h1
       have HYB := Lib.hid (show areBytesN y = true by have := openF_bytes b (p : Int) HB.out; rw [HOY.out] at this; exact this)
       gi_wp2_with (first
        | (gi_at_call 22; refine (callsIn_wide.2 HO2.out).mono ?_; rintro e w1 ⟨v, rfl, hr, hb⟩; have HJ1 := Lib.hid (HJ.out _ _ _ HJR.out hb); obtain ⟨A1, c1, rfl, hc1, hC1⟩ := BR.len hr; have hG := getEntry_is w1 A1 c1 y hC1 hc1 HYB.out; rw [HGX.out] at hG; have HG := Lib.hid hG; clear hr hb hC1 hG hc1)
        | (gi_at_call 23; refine (callsIn_wide.2 HG.out).mono ?_; rintro e w2 ⟨u, rfl, hr, hb⟩; have HJ2 := Lib.hid (HJ.out _ _ _ HJ1.out hb); obtain ⟨u8, rfl, ht⟩ := hr; obtain ⟨A8, c8, rfl, l8, _⟩ := TR.C ht; have HBA := Lib.hid ((Below.refl w2.heap.size w2).alloc (Nat.le_refl _) (.cells #[.int .i64 x.f0, .int .i64 x.f1, .int .i64 x.f2.f0, .int .i64 x.f2.f1, .int .i64 x.f2.f2, .int .i64 x.f2.f3, .int .i64 x.f2.f4, .int .i64 x.f2.f5, .slice A8 x.f2.f6.length c8, .int .i64 x.f2.f7] 26)); clear hb ht))
       refine bodyPost_ret (v := .tuple #[]) (results_none rfl _ _ _) rfl ?_
       exact ⟨⟨_, rfl⟩, pre, HEE.out, HJ.out _ _ _ HJ2.out HBA.out⟩
     · have t1 : (er != 0) = true := by simpa using h1
       gi_wp2_with (gi_at_call 22; refine (callsIn_wide.2 HO2.out).mono ?_; rintro e w1 ⟨v, rfl, hr, hb⟩; have HJ1 := Lib.hid (HJ.out _ _ _ HJR.out hb); clear hr hb)
       refine bodyPost_ret (v := .tuple #[]) (results_none rfl _ _ _) rfl ?_
       exact ⟨⟨_, rfl⟩, pre, HEE.out, HJ1.out⟩
   · obtain rfl : p = b.length := by omega
     clear HO hend
     gi_wp2
     go_end0
     exact ⟨⟨_, rfl⟩, pre, he, HJR.out⟩
  | cons x suf =>
   have he := HE.out
   obtain ⟨ho, hx⟩ := HL.out.open_at HB.out he.symm
   obtain ⟨nx, hnx⟩ : ∃ nx, (flatE (fedX pre ++ [x])).length = nx := ⟨_, rfl⟩
   rw [HP.out, hnx] at ho
   have hlt : p < b.length := by
    have h1 := HL.out.len
    have h2 := HP.out
    rw [← he, flatE_append, flatE_cons, List.length_append, List.length_append] at h1
    have := entF_pos x
    omega
   have hnb : nx ≤ b.length := by
    have h1 := HL.out.len
    rw [← he, flatE_append, flatE_cons, List.length_append, List.length_append] at h1
    rw [← hnx, flatE_snoc, List.length_append]
    omega
   have hpn : p < nx := by
    rw [← hnx, flatE_snoc, List.length_append, HP.out]
    have := entF_pos x
    omega
   have hO := HO.out
   rw [ho] at hO
   simp only at hO
   have HO2 := Lib.hid hO
   have HGX := Lib.hid hx
   have HNX := Lib.hid hnx
   have HEE := Lib.hid he
   have HPX : Hid (fedX pre ++ [x] <+: xs) := Lib.hid (by rw [← he]; exact ⟨suf, by simp⟩)
   clear hO ho hx hnx he HE HO
   gi_wp2_with (first
    | (gi_at_call 22; refine (callsIn_wide.2 HO2.out).mono ?_; rintro e w1 ⟨v, rfl, hr, hb⟩; have HJ1 := Lib.hid (HJ.out _ _ _ HJR.out hb); obtain ⟨A1, c1, rfl, hc1, hC1⟩ := BR.len hr; have hG := getEntry_is w1 A1 c1 (entryB x) hC1 hc1 (entryB_bytes x); rw [HGX.out] at hG; have HG := Lib.hid hG; have HB1 := Lib.hid hb; clear hr hb hC1 hG hc1)
    | (gi_at_call 23; refine (callsIn_wide.2 HG.out).mono ?_; rintro e w2 ⟨u, rfl, hr, hb⟩; have HJ2 := Lib.hid (HJ.out _ _ _ HJ1.out hb); obtain ⟨u8, rfl, ht⟩ := hr; obtain ⟨A8, c8, rfl, l8, _⟩ := TR.C ht; have HBA := (Below.refl w2.heap.size w2).alloc (Nat.le_refl _) (entO x A8 c8); have HT8 := Lib.hid (Kd.R_below (Kd.R_lower ht (HS.out _ _ HJ1.out)) HBA); have HJ3 := Lib.hid (HJ.out _ _ _ HJ2.out HBA); have HB3 := Lib.hid (HB1.out.trans ((hb.trans (HBA.mono hb.size)).mono HB1.out.size)); obtain ⟨fn, tmps, assign, body, hy, hR⟩ := HY.out pre ⟨nx, x, A8, c8⟩ _ HJ3.out ⟨HPX.out, HNX.out.symm, l8, HT8.out⟩; clear hb ht HBA HG HJ1 HJ2 HT8))
   refine hR.mono ?_
   rintro e W3 ⟨rfl, hJ3, hk3⟩
   have HX3 : Hid (Boxed W3 Bb 27 (.slice A b.length c)) := Lib.hid (hk3.1.trans ((HB3.out.block Bb HX.out.lt).trans HX.out))
   have HC3 : Hid (Kd.C (Kd.int .u8) W3 A b.length b) := Lib.hid (C_moveK (Kd.C_below HC.out HB3.out) hk3.2)
   have HJ4 := Lib.hid hJ3
   clear hJ3 hk3 hy hR HJ3
   gi_wp2
   go_roundw
   case rel => exact ⟨pre ++ [⟨nx, x, A8, c8⟩], suf, nx, rfl, Lib.hid (by rw [← HEE.out]; simp [fedX]), Lib.hid (by rw [← HNX.out]; simp [fedX]), hnb, HX3, HC3, HJ4⟩
   case measure => simp [intOf]; omega
end Go.Proofs.Ytmbnjgnmblgjoaa.Man
end
section
namespace Go.Proofs.Ytmbnjgnmblgjoaa.Man
open Go.RowKit Go.Proofs.YtmbnjgnmblgjoaaW.PrintWords Go.Proofs.YtmbnjgnmblgjoaaW.PrintLast
set_option linter.unusedVariables false
set_option linter.unusedSimpArgs false
def DiskAt (w : World) (B : Nat) (v : Value) (s m : Int) (made : Bool) : Prop := w.heap[B]? = some (.cells #[v, .int .i64 s, .int .i64 m, .bool made] 148 (0, 0))
theorem DiskAt.c0 {w : World} {B : Nat} {v : Value} {s m : Int} {made : Bool} (h : DiskAt w B v s m made) : w.cell? ⟨B, 0, none⟩ = some v := by simp [World.cell?, show w.heap[B]? = _ from h]
theorem DiskAt.c1 {w : World} {B : Nat} {v : Value} {s m : Int} {made : Bool} (h : DiskAt w B v s m made) : w.cell? ⟨B, 1, none⟩ = some (.int .i64 s) := by simp [World.cell?, show w.heap[B]? = _ from h]
theorem DiskAt.c2 {w : World} {B : Nat} {v : Value} {s m : Int} {made : Bool} (h : DiskAt w B v s m made) : w.cell? ⟨B, 2, none⟩ = some (.int .i64 m) := by simp [World.cell?, show w.heap[B]? = _ from h]
theorem DiskAt.c3 {w : World} {B : Nat} {v : Value} {s m : Int} {made : Bool} (h : DiskAt w B v s m made) : w.cell? ⟨B, 3, none⟩ = some (.bool made) := by simp [World.cell?, show w.heap[B]? = _ from h]
theorem none_at (w : World) (B : Nat) (v : Value) (s m : Int) (made : Bool) (h : DiskAt w B v s m made) : Calls Try.prog 99 #[.pointer (some ⟨B, 0, none⟩)] w fun e w' => e = .returned (.bool (!made)) ∧ w = w' := by
 have c3 := h.c3
 go_enter Try.func99, Try.ntmps99
 go_wp2
 go_ret
 exact ⟨rfl, rfl⟩
def NoDisk (w : World) (p : Option Addr) : Prop := p = none ∨ ∃ B v s m, p = some ⟨B, 0, none⟩ ∧ DiskAt w B v s m false
end Go.Proofs.Ytmbnjgnmblgjoaa.Man
end
section
namespace Go.Proofs.Ytmbnjgnmblgjoaa.Man
open Go.RowKit Go.Proofs.YtmbnjgnmblgjoaaW.PrintWords Go.Proofs.YtmbnjgnmblgjoaaW.PrintLast
set_option linter.unusedVariables false
set_option linter.unusedSimpArgs false
set_option maxRecDepth 100000
def DRow (w : World) (base : Nat) (v : Value) (xs : List Int) : Prop :=
 (v = .slice none 0 0 ∧ xs = []) ∨ ∃ g cap cur, v = .slice (some ⟨g, 0, none⟩) xs.length cap ∧ base ≤ g ∧ w.heap[g]? = some (.cells cur 5 (0, 0)) ∧ xs.length ≤ cap ∧ cap ≤ cur.size ∧ cap ≤ maxLen ∧ cur.toList.take xs.length = encs (Value.int .u8) xs
theorem DRow.nil (w : World) (base : Nat) : DRow w base (.slice none 0 0) [] := .inl ⟨rfl, rfl⟩
theorem DRow.of_own {w : World} {base : Nat} {v : Value} {xs : List Int} (h : w.ownsRow base 5 1 v xs.length (encs (Value.int .u8) xs)) : DRow w base v xs := by
 rcases h.2 with ⟨rfl, h0⟩ | ⟨g, cap, cur, rfl, h1, h2, h3, h4, h5, h6⟩
 · exact .inl ⟨rfl, List.eq_nil_of_length_eq_zero h0⟩
 · exact .inr ⟨g, cap, cur, rfl, h1, h2, h3, by omega, h4, by rw [Nat.mul_one] at h6; exact h6⟩
theorem DRow.move {w w1 : World} {base : Nat} {v : Value} {xs : List Int} (h : DRow w base v xs) (hm : ∀ k, v.ownBlock = some k → w1.heap[k]? = w.heap[k]?) : DRow w1 base v xs := by
 rcases h with h | ⟨g, cap, cur, rfl, h1, h2, h3⟩
 · exact .inl h
 · exact .inr ⟨g, cap, cur, rfl, h1, (hm g rfl).trans h2, h3⟩
theorem DRow.lower {w : World} {base base' : Nat} {v : Value} {xs : List Int} (h : DRow w base v xs) (hb : base' ≤ base) : DRow w base' v xs := by
 rcases h with h | ⟨g, cap, cur, rfl, h1, h2⟩
 · exact .inl h
 · exact .inr ⟨g, cap, cur, rfl, by omega, h2⟩
theorem DRow.block {w : World} {base : Nat} {v : Value} {xs : List Int} (h : DRow w base v xs) {k : Nat} (hk : v.ownBlock = some k) : base ≤ k ∧ k < w.heap.size ∧ ∃ cur, w.heap[k]? = some (.cells cur 5 (0, 0)) := by
 rcases h with ⟨rfl, _⟩ | ⟨g, cap, cur, rfl, h1, h2, _⟩
 · cases hk
 · obtain rfl : g = k := by simpa [Value.ownBlock] using hk
   exact ⟨h1, (Array.getElem?_eq_some_iff.1 h2).1, cur, h2⟩
theorem DRow.len {w : World} {base : Nat} {v : Value} {xs : List Int} (h : DRow w base v xs) : ∃ A c, v = .slice A xs.length c ∧ xs.length ≤ c := by
 rcases h with ⟨rfl, rfl⟩ | ⟨g, cap, cur, rfl, h1, h2, h3, _⟩
 · exact ⟨none, 0, rfl, Nat.le_refl _⟩
 · exact ⟨_, cap, rfl, h3⟩
theorem DRow.cell {w : World} {base g n cap : Nat} {xs : List Int} (h : DRow w base (.slice (some ⟨g, 0, none⟩) n cap) xs) {j : Nat} {u : Value} (hj : (encs (Value.int .u8) xs)[j]? = some u) : w.cell? ((⟨g, 0, none⟩ : Addr).add j) = some u := by
 rcases h with ⟨h, _⟩ | ⟨g', cap', cur, e, h1, h2, h3, h4, h5, h6⟩
 · cases h
 · cases e
   rw [← h6] at hj
   have hlt : j < xs.length := by
    rcases Nat.lt_or_ge j xs.length with h | h
    · exact h
    · rw [List.getElem?_eq_none (by rw [List.length_take]; omega)] at hj; cases hj
   rw [List.getElem?_take, if_pos hlt] at hj
   rw [Addr.add_lit, Nat.zero_add, cell_of_row w g _ cur _ (0, 0) h2]
   simpa using hj
theorem DRow.C {w : World} {base : Nat} {A : Option Addr} {n c : Nat} {xs : List Int} (h : DRow w base (.slice A n c) xs) : n = xs.length ∧ Kd.C (Kd.int .u8) w A n xs := by
 have h0 := h
 rcases h with ⟨h, rfl⟩ | ⟨g', cap', cur, e, h1, h2, h3, h4, h5, h6⟩
 · cases h
   exact ⟨rfl, Kd.C_of_reads (d := (0 : Int)) (h1 := fun _ => rfl) ⟨rfl, by omega, fun h => absurd h (by decide)⟩⟩
 · cases e
   refine ⟨rfl, Kd.C_of_reads (d := (0 : Int)) (h1 := fun _ => rfl) ⟨rfl, by simp only [maxLen] at h5; omega, fun _ => ⟨_, rfl, fun j hj => ?_⟩⟩⟩
   exact h0.cell (by rw [encs_get (d := (0 : Int)) xs j hj])
set_option maxRecDepth 100000 in
theorem DRow.append {w : World} {base : Nat} {v : Value} {xs ys : List Int} (h : DRow w base v xs) (ty : TypeId) {A : Option Addr} {m c : Nat} (HR : Kd.C (Kd.int .u8) w A m ys) (hbase : base ≤ w.heap.size) (hl : xs.length + m ≤ 140737488355328) :
 ∃ v1 w1, (Builtin.append_ #[27, 27] ty #[v, .slice A m c]).run Try.prog w = .ok v1 w1 ∧ DRow w1 base v1 (xs ++ ys) ∧ w.grownBy w1 v.ownBlock ∧ (v1.ownBlock = v.ownBlock ∨ ∃ b, v1.ownBlock = some b ∧ w.heap.size ≤ b) := by
 have hR := Kd.reads_of_C (enc := Value.int .u8) (d := (0 : Int)) (h1 := fun _ => rfl) HR
 have hm : ys.length = m := hR.1
 have ht : Try.prog.underlying 27 = some (.slice 5) := by kernel_rfl
 have hinfo : (Try.prog.info? 5).map (fun i => (i.zero, i.size, i.bytes)) = some (some (.int .u8 0), 1, 1) := by kernel_rfl
 obtain ⟨i0, hi, hzz⟩ := Option.map_eq_some_iff.1 hinfo
 simp only [Prod.mk.injEq] at hzz
 obtain ⟨hz0, hz1, hz2⟩ := hzz
 rcases A with _ | ad
 · have h0 : m = 0 := by
    rcases Nat.eq_zero_or_pos m with h0 | h0
    · exact h0
    · obtain ⟨ad, h, _⟩ := hR.2.2 h0
      cases h
   subst h0
   obtain rfl : ys = [] := List.eq_nil_of_length_eq_zero hm
   refine ⟨v, w, ?_, by simpa using h, World.grownBy.refl w _, .inl rfl⟩
   rcases h with ⟨rfl, hn⟩ | ⟨g, cap, cur, rfl, _, _, hnc, _⟩
   · simp [Builtin.append_, run_underlying ht, sizeOf, typeInfo, hi, Builtin.lenOf, Builtin.firstCells]
   · simp [Builtin.append_, run_underlying ht, sizeOf, typeInfo, hi, Builtin.lenOf, Builtin.firstCells, hnc, storeCells]
 · have hcells : ∀ j u, (encs (Value.int .u8) ys)[j]? = some u → w.cell? (ad.add j) = some u := by
    intro j u hu
    have hj : j < ys.length := by
     rcases Nat.lt_or_ge j ys.length with h | h
     · exact h
     · simp [encs, List.getElem?_eq_none h] at hu
    obtain ⟨ad', h', hc⟩ := hR.2.2 (by omega)
    injection h' with h'
    subst h'
    rw [encs_get (d := (0 : Int)) ys j hj] at hu
    rw [← hu]
    exact hc j (by omega)
   have hone : ∀ u ∈ encs (Value.int .u8) ys, u.oneCell' = true := by
    intro u hu; simp only [encs, List.mem_map] at hu; obtain ⟨q, _, rfl⟩ := hu; rfl
   have hnl : (encs (Value.int .u8) ys).length = m * i0.size := by rw [hz1]; simp [encs, hm]
   rcases h with ⟨rfl, rfl⟩ | ⟨g, cap, cur, rfl, h1, h2, h3, h4, h5, h6⟩
   · obtain ⟨v1, w1, hr, q2, q3, _, q5⟩ := run_append_own_at (P := Try.prog) w base 27 ty 5 i0 (.int .u8 0) 1 1 ht hi hz0 hz1 hz2 rfl (by omega) (.slice none 0 0) 0 [] (World.ownsRow_nil w base _ 1) ad m c (encs (Value.int .u8) ys) (by simp [encs, hm]) hcells hone (by simp only [maxLen]; omega) (by simp at hl; omega) hbase
     exact ⟨v1, w1, hr, DRow.of_own (by simpa [encs, hm] using q2), q3, q5.imp id fun e => ⟨_, e, Nat.le_refl _⟩⟩
   · have hold : (⟨g, 0, none⟩ : Addr) = ⟨g, 0, none⟩ := rfl
     by_cases hroom : xs.length + m ≤ cap
     · have hr := run_append_room (P := Try.prog) w 27 ty 5 i0 ht hi g xs.length cap cur h2 ad m c (encs (Value.int .u8) ys) hnl hcells hone hroom (by rw [hz1]; simp [encs, hm]; omega)
       rw [hz1, Nat.mul_one] at hr
       refine ⟨_, _, hr, .inr ⟨g, cap, _, by rw [List.length_append, hm], h1, setRow_heap w g cur _ _ _ h2, by rw [List.length_append, hm]; exact hroom, ?_, h5, ?_⟩, ⟨rfl, rfl, rfl, by simp, fun k _ hk => setRow_other w g k _ (fun e => hk (by simp [Value.ownBlock, e]))⟩, .inl rfl⟩
       · simp only [List.size_toArray, List.length_append, List.length_take, List.length_drop, Array.length_toList]
         omega
       · rw [h6]
         have hlen : (encs (Value.int .u8) xs ++ encs (Value.int .u8) ys).length = (xs ++ ys).length := by simp [encs]
         simp only [encs, List.map_append] at hlen ⊢
         rw [← hlen]
         exact List.take_left
     · have hd : DRow w base (.slice (some ⟨g, 0, none⟩) xs.length cap) xs := .inr ⟨g, cap, cur, rfl, h1, h2, h3, h4, h5, h6⟩
       obtain ⟨v1, w1, hr, q2, q3⟩ := run_append_arg_grows (P := Try.prog) w 27 ty 5 i0 (.int .u8 0) 1 1 ht hi hz0 hz1 hz2 rfl (by omega) ⟨g, 0, none⟩ xs.length cap (encs (Value.int .u8) xs) (by simp [encs]) (fun j u hu => hd.cell hu) ad m c (encs (Value.int .u8) ys) (by simp [encs, hm]) hcells (by omega) (by simp only [maxLen]; omega) (by omega)
       have q4 : DRow w1 w.heap.size v1 (xs ++ ys) := DRow.of_own (by simpa [encs, hm] using q2)
       refine ⟨v1, w1, hr, q4.lower hbase, ⟨q3.os, q3.tape, q3.output, q3.size, fun k hk _ => q3.block k hk (by simp)⟩, ?_⟩
       rcases q4 with ⟨rfl, q⟩ | ⟨b, cap', cur', rfl, q, _⟩
       · have := congrArg List.length q
         rw [List.length_append, hm] at this
         simp at this
         omega
       · exact .inr ⟨b, rfl, q⟩
theorem DRow.append_ev {ops : Array Oper} {rest : List Oper} {o : Oper} {a : Act} {Q : Exit → Act → World → Prop} {w : World} {base : Nat} {v : Value} {xs ys : List Int} {A : Option Addr} {m c : Nat}
 (h : DRow w base v xs) (HR : Kd.C (Kd.int .u8) w A m ys) (hgd : o.guard = none) (s x : Operand) (ho : o.op = .call { callee := .builtin .append, args := #[s, x], argTypes := #[27, 27] })
 (hs : a.eval s = v) (hx : a.eval x = .slice A m c) (hbase : base ≤ w.heap.size) (hl : xs.length + m ≤ 140737488355328)
 (k : ∀ v1 w1, DRow w1 base v1 (xs ++ ys) → w.grownBy w1 v.ownBlock → (v1.ownBlock = v.ownBlock ∨ ∃ b, v1.ownBlock = some b ∧ w.heap.size ≤ b) → wpList Try.prog ops Q rest (a.put o.dst v1) w1) : wpList Try.prog ops Q (o :: rest) a w := by
 obtain ⟨v1, w1, hr, q1, q2, q3⟩ := h.append o.type (c := c) HR hbase hl
 refine wpList_plain hgd fun K hK => ?_
 unfold Oper.wp execOp
 simp only [ho, resolve, invoke, builtin, Sem.run_bind, Sem.run_pure, Result.andThen_ok, List.map_toArray, List.map_cons, List.map_nil, hs, hx, hr]
 exact hK _ _ (k v1 w1 q1 q2 q3)
theorem DiskAt.lt {w : World} {B : Nat} {v : Value} {s m : Int} {made : Bool} (h : DiskAt w B v s m made) : B < w.heap.size := (Array.getElem?_eq_some_iff.1 h).1
theorem DiskAt.f {w : World} {B : Nat} {v : Value} {s m : Int} {made : Bool} (h : DiskAt w B v s m made) (k : Nat) : w.frozen? ⟨B, k, none⟩ = false := by simp [World.frozen?, show w.heap[B]? = _ from h]
theorem DiskAt.put0 {w : World} {B : Nat} {v : Value} {s m : Int} {made : Bool} (h : DiskAt w B v s m made) (v' : Value) : DiskAt (w.setCell ⟨B, 0, none⟩ v') B v' s m made := by
 unfold DiskAt World.setCell
 simp [Array.getElem?_modify, show w.heap[B]? = _ from h]
theorem DiskAt.put1 {w : World} {B : Nat} {v : Value} {s m : Int} {made : Bool} (h : DiskAt w B v s m made) (s' : Int) : DiskAt (w.setCell ⟨B, 1, none⟩ (.int .i64 s')) B v s' m made := by
 unfold DiskAt World.setCell
 simp [Array.getElem?_modify, show w.heap[B]? = _ from h]
theorem DiskAt.move {w w1 : World} {B : Nat} {v : Value} {s m : Int} {made : Bool} (h : DiskAt w B v s m made) (hm : w1.heap[B]? = w.heap[B]?) : DiskAt w1 B v s m made := hm.trans h
theorem DiskAt.apart {w : World} {B base : Nat} {v u : Value} {s m : Int} {made : Bool} {xs : List Int} (h : DiskAt w B v s m made) (hr : DRow w base u xs) : some B ≠ u.ownBlock := by
 intro e
 obtain ⟨_, _, cur, hc⟩ := hr.block e.symm
 rw [show w.heap[B]? = _ from h] at hc
 cases hc
structure DiskS (w : World) (base B : Nat) (v : Value) (xs : List Int) (s m : Int) : Prop where
 cells : DiskAt w B v s m true
 row : DRow w base v xs
 at_ : base ≤ B
 m0 : 0 ≤ m
 m1 : m ≤ 262144
 len : (xs.length : Int) ≤ m
 s0 : 0 ≤ s
 s1 : s ≤ (xs.length : Int)
structure DStep (w w' : World) (B : Nat) (v v' : Value) : Prop where
 os : w'.os = w.os
 tape : w'.tape = w.tape
 output : w'.output = w.output
 size : w.heap.size ≤ w'.heap.size
 block : ∀ k, k < w.heap.size → k ≠ B → some k ≠ v.ownBlock → w'.heap[k]? = w.heap[k]?
 row : v'.ownBlock = v.ownBlock ∨ ∃ b, v'.ownBlock = some b ∧ w.heap.size ≤ b
theorem DStep.below {w w' : World} {base B : Nat} {v v' : Value} {xs : List Int} {s m : Int} (h : DStep w w' B v v') (hd : DiskS w base B v xs s m) : Below base w w' :=
 ⟨h.os, h.tape, h.output, h.size, fun k hk => h.block k (by have := hd.cells.lt; have := hd.at_; omega) (by have := hd.at_; omega) (fun e => by have := (hd.row.block e.symm).1; omega)⟩
theorem DiskS.below {w w1 : World} {base B n : Nat} {v : Value} {xs : List Int} {s m : Int} (h : DiskS w base B v xs s m) (hb : Below n w w1) (hn : w.heap.size ≤ n) : DiskS w1 base B v xs s m :=
 { h with cells := h.cells.move (hb.block _ (by have := h.cells.lt; omega)), row := h.row.move fun k hk => hb.block _ (by have := (h.row.block hk).2.1; omega) }
end Go.Proofs.Ytmbnjgnmblgjoaa.Man
end
section
namespace Go.Proofs.Ytmbnjgnmblgjoaa.Man
open Go.RowKit Go.Proofs.YtmbnjgnmblgjoaaW.PrintWords Go.Proofs.YtmbnjgnmblgjoaaW.PrintLast
set_option linter.unusedVariables false
set_option linter.unusedSimpArgs false
set_option maxRecDepth 100000
theorem DiskS.none {w : World} {base B : Nat} {v : Value} {xs : List Int} {s m : Int} (h : DiskS w base B v xs s m) : Calls Try.prog 99 #[.pointer (some ⟨B, 0, none⟩)] w fun e w' => e = .returned (.bool false) ∧ w = w' := none_at w B v s m true h.cells
theorem new_is (n : Int) (w : World) (base : Nat) (hb : base ≤ w.heap.size) (h0 : 0 ≤ n) (h1 : n ≤ 262144) : Calls Try.prog 26 #[.int .i64 n] w fun e w' => e = .returned (.tuple #[.pointer (some ⟨w.heap.size, 0, none⟩), .int .i64 0]) ∧ DiskS w' base w.heap.size (.slice none 0 0) [] 0 n ∧ Below w.heap.size w w' := by
 go_enter Try.func26, Try.ntmps26
 go_wp2
 go_ret2
 exact ⟨rfl, ⟨World.alloc_heap_new w _, DRow.nil _ _, hb, h0, h1, h0, by omega, by simp⟩, (Below.refl _ _).alloc (Nat.le_refl _) _⟩
theorem len_is {w : World} {base B : Nat} {v : Value} {xs : List Int} {s m : Int} (h : DiskS w base B v xs s m) : Calls Try.prog 39 #[.pointer (some ⟨B, 0, none⟩)] w fun e w' => e = .returned (.int .i64 (xs.length : Int)) ∧ w = w' := by
 obtain ⟨A, c, rfl, hc⟩ := h.row.len
 have c0 := h.cells.c0
 have H := Lib.hid h
 clear h
 go_enter Try.func39, Try.ntmps39
 go_wp2_with (go_at_call 99; refine H.out.none.mono ?_; rintro e w' ⟨rfl, rfl⟩)
 go_ret
 exact ⟨rfl, rfl⟩
theorem sure_is {w : World} {base B : Nat} {v : Value} {xs : List Int} {s m : Int} (h : DiskS w base B v xs s m) : Calls Try.prog 40 #[.pointer (some ⟨B, 0, none⟩)] w fun e w' => e = .returned (.int .i64 s) ∧ w = w' := by
 have c1 := h.cells.c1
 have H := Lib.hid h
 clear h
 go_enter Try.func40, Try.ntmps40
 go_wp2_with (go_at_call 99; refine H.out.none.mono ?_; rintro e w' ⟨rfl, rfl⟩)
 go_ret
 exact ⟨rfl, rfl⟩
theorem DStep.put {w w1 : World} {B : Nat} {v v' : Value} (h : DStep w w1 B v v') (k : Nat) (u : Value) : DStep w (w1.setCell ⟨B, k, none⟩ u) B v v' :=
 ⟨h.os, h.tape, h.output, by simpa [World.setCell] using h.size, fun i hi h1 h2 => (Below.heap_setCell w1 ⟨B, k, none⟩ u i h1).trans (h.block i hi h1 h2), h.row⟩
theorem DStep.refl (w : World) (B : Nat) (v : Value) : DStep w w B v v := ⟨rfl, rfl, rfl, Nat.le_refl _, fun _ _ _ _ => rfl, .inl rfl⟩
theorem sync_is {w : World} {base B : Nat} {v : Value} {xs : List Int} {s m : Int} (h : DiskS w base B v xs s m) : Calls Try.prog 32 #[.pointer (some ⟨B, 0, none⟩)] w fun e w' => e = .returned (.int .i64 0) ∧ DiskS w' base B v xs (xs.length : Int) m ∧ DStep w w' B v v := by
 obtain ⟨A, c, rfl, hc⟩ := h.row.len
 have c0 := h.cells.c0
 have c1 := h.cells.c1
 have f1 := h.cells.f 1
 have H := Lib.hid h
 clear h
 go_enter Try.func32, Try.ntmps32
 go_wp2_with (go_at_call 99; refine H.out.none.mono ?_; rintro e w' ⟨rfl, rfl⟩)
 go_ret
 have h := H.out
 refine ⟨rfl, { h with cells := h.cells.put1 _, row := h.row.move fun k hk => Below.heap_setCell _ _ _ _ fun e => h.cells.apart h.row (by rw [hk, e]), s0 := by omega, s1 := by omega }, (DStep.refl _ _ _).put _ _⟩
theorem append_is {w : World} {base B : Nat} {v : Value} {xs ys : List Int} {s m : Int} (h : DiskS w base B v xs s m) (A : Option Addr) (c : Nat) (HR : Kd.C (Kd.int .u8) w A ys.length ys) (hroom : (ys.length : Int) ≤ m - (xs.length : Int)) : Calls Try.prog 29 #[.pointer (some ⟨B, 0, none⟩), .slice A ys.length c] w fun e w' => e = .returned (.int .i64 0) ∧ ∃ v', DiskS w' base B v' (xs ++ ys) s m ∧ DStep w w' B v v' := by
 obtain ⟨A', c', rfl, hc⟩ := h.row.len
 have c0 := h.cells.c0
 have c2 := h.cells.c2
 have m0 := h.m0
 have m1 := h.m1
 have hl := h.len
 have H := Lib.hid h
 have HC := Lib.hid HR
 clear h HR
 go_enter Try.func29, Try.ntmps29
 go_wp2_with (go_at_call 99; refine H.out.none.mono ?_; rintro e w' ⟨rfl, rfl⟩)
 go_quiet (fail)
 go_wp2_with (at_builtin; refine DRow.append_ev (w := w.drewN nq) (H.out.row.move fun k hk => rfl) (Kd.C_below HC.out ⟨rfl, rfl, rfl, Nat.le_refl _, fun _ _ => rfl⟩) rfl _ _ rfl rfl rfl (Nat.le_of_lt (Nat.lt_of_le_of_lt H.out.at_ H.out.cells.lt)) (by omega) ?_; intro v1 w1 hd hg hat; obtain ⟨A1, c1, rfl, hc1⟩ := hd.len; have hD : DiskAt w1 B (.slice A' xs.length c') s m true := H.out.cells.move (hg.block B H.out.cells.lt (H.out.cells.apart H.out.row)); have k0 := hD.c0; have g0 := hD.f 0; have HD := Lib.hid hD; have HR := Lib.hid hd; have HG := Lib.hid hg; have HAT := Lib.hid hat; clear hD hd hg hat)
 go_ret
 have h := H.out
 have hd := HR.out
 have hg := HG.out
 rw [← List.length_append]
 refine ⟨rfl, _, ⟨HD.out.put0 _, hd.move fun k hk => Below.heap_setCell _ _ _ _ fun e => HD.out.apart hd (by rw [hk, e]), h.at_, m0, m1, by rw [List.length_append]; omega, h.s0, by have := h.s1; rw [List.length_append]; omega⟩, DStep.put (w := w) ⟨hg.os, hg.tape, hg.output, hg.size, fun k hk _ h2 => hg.block k hk h2, HAT.out⟩ _ _⟩
theorem append_full {w : World} {base B : Nat} {v : Value} {xs : List Int} {s m : Int} (h : DiskS w base B v xs s m) (A : Option Addr) (l c : Nat) (hl63 : l ≤ 9223372036854775807) (hroom : ¬ ((l : Int) ≤ m - (xs.length : Int))) : Calls Try.prog 29 #[.pointer (some ⟨B, 0, none⟩), .slice A l c] w fun e w' => e = .returned (.int .i64 12) ∧ ∃ n, w' = w.drewN n := by
 obtain ⟨A', c', rfl, hc⟩ := h.row.len
 have c0 := h.cells.c0
 have c2 := h.cells.c2
 have m0 := h.m0
 have m1 := h.m1
 have hl := h.len
 have H := Lib.hid h
 clear h
 go_enter Try.func29, Try.ntmps29
 go_wp2_with (go_at_call 99; refine H.out.none.mono ?_; rintro e w' ⟨rfl, rfl⟩)
 go_quiet (fail)
 go_wp2
 go_ret
 exact ⟨rfl, _, rfl⟩
theorem DRow.keep {w : World} {base : Nat} {A : Option Addr} {c n : Nat} {xs : List Int} (h : DRow w base (.slice A xs.length c) xs) (hn : n ≤ xs.length) : DRow w base (.slice A n n) (xs.take n) := by
 rcases h with ⟨h, rfl⟩ | ⟨g, cap, cur, e, h1, h2, h3, h4, h5, h6⟩
 · cases h
   obtain rfl : n = 0 := by simpa using hn
   exact .inl ⟨rfl, rfl⟩
 · cases e
   have hl : (xs.take n).length = n := by rw [List.length_take]; omega
   refine .inr ⟨g, n, cur, by rw [hl], h1, h2, by omega, by omega, by omega, ?_⟩
   rw [hl]
   have := congrArg (List.take n) h6
   rw [List.take_take, Nat.min_eq_left hn] at this
   rw [this]
   simp [encs, List.map_take]
theorem keep_is {w : World} {base B : Nat} {v : Value} {xs : List Int} {s m : Int} (h : DiskS w base B v xs s m) (n : Nat) (hn : n ≤ xs.length) : Calls Try.prog 100 #[.pointer (some ⟨B, 0, none⟩), .int .i64 n] w fun e w' => e = .returned (.tuple #[]) ∧ ∃ v', DiskS w' base B v' (xs.take n) n m ∧ DStep w w' B v v' := by
 obtain ⟨A, c, rfl, hc⟩ := h.row.len
 have c0 := h.cells.c0
 have f0 := h.cells.f 0
 have f1 := h.cells.f 1
 have c1 := h.cells.c1
 have m0 := h.m0
 have m1 := h.m1
 have hl := h.len
 have H := Lib.hid h
 clear h
 go_enter Try.func100, Try.ntmps100
 go_wp2
 have h := H.out
 have hr := h.row.keep hn
 have hap : ∀ k, Value.ownBlock (.slice A n n) = some k → k ≠ B := fun k hk e => h.cells.apart h.row (by rw [← e, ← hk]; cases A <;> rfl)
 go_end0
 refine ⟨rfl, _, ⟨(h.cells.put0 _).put1 _, (hr.move fun k hk => Below.heap_setCell _ _ _ _ (hap k hk)).move fun k hk => Below.heap_setCell _ _ _ _ (hap k hk), h.at_, m0, m1, by rw [List.length_take]; omega, by omega, by rw [List.length_take]; omega⟩, (DStep.put ⟨rfl, rfl, rfl, Nat.le_refl _, fun _ _ _ _ => rfl, .inl (by cases A <;> rfl)⟩ _ _).put _ _⟩
theorem cut_is {w : World} {base B : Nat} {v : Value} {xs : List Int} {s m : Int} (h : DiskS w base B v xs s m) (n : Nat) (hn : n ≤ xs.length) : Calls Try.prog 35 #[.pointer (some ⟨B, 0, none⟩), .int .i64 n] w fun e w' => e = .returned (.int .i64 0) ∧ ∃ v', DiskS w' base B v' (xs.take n) n m ∧ DStep w w' B v v' := by
 obtain ⟨A, c, rfl, hc⟩ := h.row.len
 have c0 := h.cells.c0
 have m0 := h.m0
 have m1 := h.m1
 have hl := h.len
 have H := Lib.hid h
 clear h
 go_enter Try.func35, Try.ntmps35
 go_wp2_with (first
  | (go_at_call 99; refine H.out.none.mono ?_; rintro e w' ⟨rfl, rfl⟩)
  | (go_at_call 100; refine (keep_is H.out n hn).mono ?_; rintro e w1 ⟨rfl, v1, hk, hs⟩; have HK := Lib.hid hk; have HS := Lib.hid hs; clear hk hs))
 go_ret
 exact ⟨rfl, v1, HK.out, HS.out⟩
theorem crash_is {w : World} {base B : Nat} {v : Value} {xs : List Int} {s m : Int} (h : DiskS w base B v xs s m) (k : Int) (hk0 : 0 ≤ k) (hk1 : k ≤ 9223372036854775807) (n : Nat) (hn : (n : Int) = s + min k ((xs.length : Int) - s)) : Calls Try.prog 33 #[.pointer (some ⟨B, 0, none⟩), .int .i64 k] w fun e w' => e = .returned (.int .i64 0) ∧ ∃ v', DiskS w' base B v' (xs.take n) n m ∧ DStep w w' B v v' := by
 have HN := Lib.hid hn
 clear hn
 obtain ⟨A, c, rfl, hc⟩ := h.row.len
 have c0 := h.cells.c0
 have c1 := h.cells.c1
 have m0 := h.m0
 have m1 := h.m1
 have hl := h.len
 have s0 := h.s0
 have s1 := h.s1
 have H := Lib.hid h
 clear h
 go_enter Try.func33, Try.ntmps33
 go_wp2_with (go_at_call 99; refine H.out.none.mono ?_; rintro e w' ⟨rfl, rfl⟩)
 go_still_tail 18, (by kernel_rfl)
 repeat still_step
 have e1 : IntKind.i64.wrap ((xs.length : Int) - s) = (xs.length : Int) - s := by rw [IntKind.wrap_i64]; omega
 have hn := HN.out
 have e2 : IntKind.i64.wrap (s + if (xs.length : Int) - s < k then (xs.length : Int) - s else k) = (n : Int) := by
  rw [IntKind.wrap_i64]
  split <;> omega
 have hnl : n ≤ xs.length := by omega
 rw [e1, e2]
 clear e1 e2 hn
 change wpList _ _ _ _ _ w.drew
 have H2 : Hid (DiskS w.drew base B (.slice A xs.length c) xs s m) := Lib.hid (H.out.below (Below.refl _ _).drew (Nat.le_refl _))
 have HF : Hid (∀ w' v', DStep w.drew w' B (.slice A xs.length c) v' → DStep w w' B (.slice A xs.length c) v') := Lib.hid fun w' v' h => ⟨h.os, h.tape, h.output, h.size, h.block, h.row⟩
 clear c0 c1
 generalize w.drew = w2 at *
 go_wp2_with (go_at_call 100; refine (keep_is H2.out n hnl).mono ?_; rintro e w1 ⟨rfl, v1, hk, hs⟩; have HK := Lib.hid hk; have HS := Lib.hid hs; clear hk hs)
 all_goals (go_ret; exact ⟨rfl, v1, HK.out, HF.out _ _ HS.out⟩)
theorem crash_bad {w : World} {base B : Nat} {v : Value} {xs : List Int} {s m : Int} (h : DiskS w base B v xs s m) (k : Int) (hk0 : k < 0) : Calls Try.prog 33 #[.pointer (some ⟨B, 0, none⟩), .int .i64 k] w fun e w' => e = .returned (.int .i64 1) ∧ w = w' := by
 have H := Lib.hid h
 clear h
 go_enter Try.func33, Try.ntmps33
 go_wp2_with (go_at_call 99; refine H.out.none.mono ?_; rintro e w' ⟨rfl, rfl⟩)
 go_ret
 exact ⟨rfl, rfl⟩
theorem bytes_is {w : World} {base B : Nat} {v : Value} {xs : List Int} {s m : Int} (h : DiskS w base B v xs s m) : Calls Try.prog 38 #[.pointer (some ⟨B, 0, none⟩)] w fun e w' => ∃ u, e = .returned u ∧ Kd.R (Kd.int .u8) 5 w' w.heap.size (fun _ => True) u xs ∧ Below w.heap.size w w' := by
 obtain ⟨A, c, rfl, hc⟩ := h.row.len
 have c0 := h.cells.c0
 have m1 := h.m1
 have hl := h.len
 have H := Lib.hid h
 clear h
 go_enter Try.func38, Try.ntmps38
 go_wp2_with (first
  | (go_at_call 99; refine H.out.none.mono ?_; rintro e w' ⟨rfl, rfl⟩)
  | (refine Kd.R_make (Kd.int .u8) (w0 := w) w.heap.size 5 rfl rfl 27 _ _ rfl (xs.length : Int) rfl rfl (by kernel_rfl) (.int .u8 0) 1 (by kernel_rfl) rfl (by decide) (by decide) 0 (okp := fun _ => True) (ok := fun _ => True) rfl (fun _ _ => trivial) trivial (by omega) (by omega) (Below.refl _ _) (Nat.le_refl _) ?_; intro v1 w1 hr hb hg ho; rw [Int.toNat_natCast] at hr; obtain ⟨A1, c1, hv1, hc1, _⟩ := Kd.R_reads hr; rw [List.length_replicate] at hv1 hc1; subst hv1; have hD : DiskS w1 base B (.slice A xs.length c) xs s m := H.out.below hb (Nat.le_refl _); have k0 := hD.cells.c0; have HD := Lib.hid hD; have HR := Lib.hid hr; have HB := Lib.hid hb; clear hD hr hb hg ho)
  | (refine Kd.R_copy (enc := Value.int .u8) (h1 := fun _ => rfl) (d := (0 : Int)) (w0 := w) w.heap.size rfl _ _ 27 27 5 rfl (by kernel_rfl) (by kernel_rfl) _ _ xs A xs.length c (fun _ => True) rfl rfl HR.out HD.out.row.C.2 HB.out HB.out.size ?_; intro w2 hr2 hb2 hg2; have HR2 := Lib.hid hr2; have HB2 := Lib.hid hb2; clear hr2 hb2 hg2))
 go_ret
 have hr := HR2.out
 have e : xs.take (min xs.length (List.replicate xs.length (0 : Int)).length) ++ (List.replicate xs.length (0 : Int)).drop (min xs.length (List.replicate xs.length (0 : Int)).length) = xs := by simp
 rw [e] at hr
 exact ⟨_, rfl, hr, HB2.out⟩
end Go.Proofs.Ytmbnjgnmblgjoaa.Man
end
section
namespace Go.Proofs.Ytmbnjgnmblgjoaa.Man
open Go.RowKit Go.Proofs.YtmbnjgnmblgjoaaW.PrintWords Go.Proofs.YtmbnjgnmblgjoaaW.PrintLast
set_option linter.unusedVariables false
set_option linter.unusedSimpArgs false
set_option maxRecDepth 100000
end Go.Proofs.Ytmbnjgnmblgjoaa.Man
end
section
namespace Go.Proofs.Ytmbnjgnmblgjoaa.Man
open Go.RowKit Go.Proofs.YtmbnjgnmblgjoaaW.PrintWords Go.Proofs.YtmbnjgnmblgjoaaW.PrintLast
set_option linter.unusedVariables false
set_option linter.unusedSimpArgs false
set_option maxRecDepth 100000
theorem str_of {w : World} {A : Option Addr} {n : Nat} {c : Nat} {xs : List Int} (h : Kd.C (Kd.int .u8) w A n xs) : (convert 27 9 (.slice A n c)).run Try.prog w = .ok (.string (strOfNums xs)) w :=
 Kd.C_string (e := 5) (by kernel_rfl) (by kernel_rfl) (by kernel_rfl) h
end Go.Proofs.Ytmbnjgnmblgjoaa.Man
end
section
namespace Go.Proofs.Ytmbnjgnmblgjoaa.Man
open Go.RowKit Go.Proofs.YtmbnjgnmblgjoaaW.PrintWords Go.Proofs.YtmbnjgnmblgjoaaW.PrintLast
set_option linter.unusedVariables false
set_option linter.unusedSimpArgs false
set_option maxRecDepth 100000
def RefAt (w : World) (B : Nat) (v : Value) (s m : Int) : Prop := w.heap[B]? = some (.cells #[v, .int .i64 s, .int .i64 m] 57 (0, 0))
theorem RefAt.c0 {w : World} {B : Nat} {v : Value} {s m : Int} (h : RefAt w B v s m) : w.cell? ⟨B, 0, none⟩ = some v := by simp [World.cell?, show w.heap[B]? = _ from h]
theorem RefAt.c1 {w : World} {B : Nat} {v : Value} {s m : Int} (h : RefAt w B v s m) : w.cell? ⟨B, 1, none⟩ = some (.int .i64 s) := by simp [World.cell?, show w.heap[B]? = _ from h]
theorem RefAt.c2 {w : World} {B : Nat} {v : Value} {s m : Int} (h : RefAt w B v s m) : w.cell? ⟨B, 2, none⟩ = some (.int .i64 m) := by simp [World.cell?, show w.heap[B]? = _ from h]
theorem RefAt.lt {w : World} {B : Nat} {v : Value} {s m : Int} (h : RefAt w B v s m) : B < w.heap.size := (Array.getElem?_eq_some_iff.1 h).1
theorem RefAt.f {w : World} {B : Nat} {v : Value} {s m : Int} (h : RefAt w B v s m) (k : Nat) : w.frozen? ⟨B, k, none⟩ = false := by simp [World.frozen?, show w.heap[B]? = _ from h]
theorem RefAt.put0 {w : World} {B : Nat} {v : Value} {s m : Int} (h : RefAt w B v s m) (v' : Value) : RefAt (w.setCell ⟨B, 0, none⟩ v') B v' s m := by
 unfold RefAt World.setCell
 simp [Array.getElem?_modify, show w.heap[B]? = _ from h]
theorem RefAt.put1 {w : World} {B : Nat} {v : Value} {s m : Int} (h : RefAt w B v s m) (s' : Int) : RefAt (w.setCell ⟨B, 1, none⟩ (.int .i64 s')) B v s' m := by
 unfold RefAt World.setCell
 simp [Array.getElem?_modify, show w.heap[B]? = _ from h]
theorem RefAt.move {w w1 : World} {B : Nat} {v : Value} {s m : Int} (h : RefAt w B v s m) (hm : w1.heap[B]? = w.heap[B]?) : RefAt w1 B v s m := hm.trans h
theorem RefAt.apart {w : World} {B base : Nat} {v u : Value} {s m : Int} {xs : List Int} (h : RefAt w B v s m) (hr : DRow w base u xs) : some B ≠ u.ownBlock := by
 intro e
 obtain ⟨_, _, cur, hc⟩ := hr.block e.symm
 rw [show w.heap[B]? = _ from h] at hc
 cases hc
structure RefS (w : World) (base B : Nat) (v : Value) (xs : List Int) (s m : Int) : Prop where
 cells : RefAt w B v s m
 row : DRow w base v xs
 at_ : base ≤ B
 m0 : 0 ≤ m
 m1 : m ≤ 262144
 len : (xs.length : Int) ≤ m
 s0 : 0 ≤ s
 s1 : s ≤ (xs.length : Int)
theorem DStep.belowR {w w' : World} {base B : Nat} {v v' : Value} {xs : List Int} {s m : Int} (h : DStep w w' B v v') (hd : RefS w base B v xs s m) : Below base w w' :=
 ⟨h.os, h.tape, h.output, h.size, fun k hk => h.block k (by have := hd.cells.lt; have := hd.at_; omega) (by have := hd.at_; omega) (fun e => by have := (hd.row.block e.symm).1; omega)⟩
theorem RefS.below {w w1 : World} {base B n : Nat} {v : Value} {xs : List Int} {s m : Int} (h : RefS w base B v xs s m) (hb : Below n w w1) (hn : w.heap.size ≤ n) : RefS w1 base B v xs s m :=
 { h with cells := h.cells.move (hb.block _ (by have := h.cells.lt; omega)), row := h.row.move fun k hk => hb.block _ (by have := (h.row.block hk).2.1; omega) }
theorem refNew_is (n : Int) (w : World) (base : Nat) (hb : base ≤ w.heap.size) (h0 : 0 ≤ n) (h1 : n ≤ 262144) : Calls Try.prog 27 #[.int .i64 n] w fun e w' => e = .returned (.tuple #[.pointer (some ⟨w.heap.size, 0, none⟩), .int .i64 0]) ∧ RefS w' base w.heap.size (.slice none 0 0) [] 0 n ∧ Below w.heap.size w w' := by
 go_enter Try.func27, Try.ntmps27
 go_wp2
 go_ret2
 exact ⟨rfl, ⟨World.alloc_heap_new w _, DRow.nil _ _, hb, h0, h1, h0, by omega, by simp⟩, (Below.refl _ _).alloc (Nat.le_refl _) _⟩
theorem refNew_bad (n : Int) (w : World) (hn : n < 0 ∨ 262144 < n) : Calls Try.prog 27 #[.int .i64 n] w fun e w' => e = .returned (.tuple #[.pointer none, .int .i64 1]) ∧ w = w' := by
 rcases hn with hn | hn
 · go_enter Try.func27, Try.ntmps27
   go_wp2
   go_ret2
   exact ⟨rfl, rfl⟩
 · have h0 : ¬ n < 0 := by omega
   go_enter Try.func27, Try.ntmps27
   go_wp2
   go_ret2
   exact ⟨rfl, rfl⟩
theorem new_bad (n : Int) (w : World) (hn : n < 0 ∨ 262144 < n) : Calls Try.prog 26 #[.int .i64 n] w fun e w' => e = .returned (.tuple #[.pointer none, .int .i64 1]) ∧ w = w' := by
 rcases hn with hn | hn
 · go_enter Try.func26, Try.ntmps26
   go_wp2
   go_ret2
   exact ⟨rfl, rfl⟩
 · have h0 : ¬ n < 0 := by omega
   go_enter Try.func26, Try.ntmps26
   go_wp2
   go_ret2
   exact ⟨rfl, rfl⟩
theorem refSync_is {w : World} {base B : Nat} {v : Value} {xs : List Int} {s m : Int} (h : RefS w base B v xs s m) : Calls Try.prog 31 #[.pointer (some ⟨B, 0, none⟩)] w fun e w' => e = .returned (.tuple #[]) ∧ RefS w' base B v xs (xs.length : Int) m ∧ DStep w w' B v v := by
 obtain ⟨A, c, rfl, hc⟩ := h.row.len
 have c0 := h.cells.c0
 have c1 := h.cells.c1
 have f1 := h.cells.f 1
 have H := Lib.hid h
 clear h
 go_enter Try.func31, Try.ntmps31
 go_wp2
 go_end0
 have h := H.out
 refine ⟨rfl, { h with cells := h.cells.put1 _, row := h.row.move fun k hk => Below.heap_setCell _ _ _ _ fun e => h.cells.apart h.row (by rw [hk, e]), s0 := by omega, s1 := by omega }, (DStep.refl _ _ _).put _ _⟩
theorem DRow.empty (W : World) (base : Nat) (hb : base ≤ W.heap.size) : DRow (W.alloc (.cells #[] 5)) base (.slice (some ⟨W.heap.size, 0, none⟩) 0 0) [] :=
 .inr ⟨_, 0, #[], rfl, hb, World.alloc_heap_new W _, by simp, by simp, by decide, rfl⟩
theorem refAppend_is {w : World} {base B : Nat} {v : Value} {xs ys : List Int} {s m : Int} (h : RefS w base B v xs s m) (A : Option Addr) (c : Nat) (HR : Kd.C (Kd.int .u8) w A ys.length ys) (hroom : (ys.length : Int) ≤ m - (xs.length : Int)) : Calls Try.prog 30 #[.pointer (some ⟨B, 0, none⟩), .slice A ys.length c] w fun e w' => e = .returned (.int .i64 0) ∧ ∃ v', RefS w' base B v' (xs ++ ys) s m ∧ DStep w w' B v v' := by
 obtain ⟨A', c', rfl, hc⟩ := h.row.len
 have c0 := h.cells.c0
 have c2 := h.cells.c2
 have m0 := h.m0
 have m1 := h.m1
 have hl := h.len
 have H := Lib.hid h
 have HC := Lib.hid HR
 clear h HR
 go_enter Try.func30, Try.ntmps30
 go_wp2
 go_quiet (fail)
 have H1 : Hid (RefS (w.drewN nq) base B (.slice A' xs.length c') xs s m) := Lib.hid (H.out.below (pw_below_drewN (Below.refl _ _) nq) (Nat.le_refl _))
 have HC1 : Hid (Kd.C (Kd.int .u8) (w.drewN nq) A ys.length ys) := Lib.hid (Kd.C_below HC.out (pw_below_drewN (Below.refl _ _) nq))
 have HF : Hid (∀ w' v', DStep (w.drewN nq) w' B (.slice A' xs.length c') v' → DStep w w' B (.slice A' xs.length c') v') := Lib.hid fun w' v' h => ⟨h.os, h.tape, h.output, h.size, h.block, h.row⟩
 clear c0 c2 H HC
 generalize w.drewN nq = w1 at *
 have c0 := H1.out.cells.c0
 have hlt := H1.out.cells.lt
 have hbe : Below w1.heap.size w1 (w1.alloc (.cells #[] 5)) := (Below.refl _ _).alloc (Nat.le_refl _) _
 have a0 : (w1.alloc (.cells #[] 5)).cell? ⟨B, 0, none⟩ = some (.slice A' xs.length c') := (hbe.cell (p := ⟨B, 0, none⟩) hlt).trans c0
 have HE := Lib.hid hbe
 clear hbe c0
 go_wp2_with (first
  | (at_builtin; refine DRow.append_ev (w := w1.alloc (.cells #[] 5)) (DRow.empty w1 w1.heap.size (Nat.le_refl _)) (ys := xs) (c := c') ((H1.out.below HE.out (Nat.le_refl _)).row.C.2) rfl (.tmp 19) (.tmp 23) rfl rfl rfl HE.out.size (by simp only [List.length_nil]; omega) ?_; intro v1 w2 hd hg hat; rw [List.nil_append] at hd; have HB2 := Lib.hid (HE.out.grown hg HE.out.size (fun k e => by cases e; exact Nat.le_refl _)); obtain ⟨A1, k1, rfl, hk1⟩ := hd.len; have HO2 : Hid (∃ b, Value.ownBlock (.slice A1 xs.length k1) = some b ∧ w1.heap.size ≤ b) := Lib.hid (by rcases hat with e | ⟨b, e, hb⟩; exact ⟨_, e, Nat.le_refl _⟩; exact ⟨b, e, Nat.le_trans HE.out.size hb⟩); have HD2 := Lib.hid hd; clear hd hg hat hk1)
  | (at_builtin; refine DRow.append_ev (w := w2) HD2.out (ys := ys) (c := c) (Kd.C_below HC1.out HB2.out) rfl (.tmp 24) (.tmp 25) rfl rfl rfl HB2.out.size (by omega) ?_; intro v2 w3 hd hg hat; have HB3 := Lib.hid (HB2.out.grown hg HB2.out.size (fun k e => (HD2.out.block e).1)); obtain ⟨A2, k2, rfl, hk2⟩ := hd.len; have h3 := H1.out.cells.move (HB3.out.block B hlt); have k0 := h3.c0; have g0 := h3.f 0; have HX := Lib.hid h3; have HD3 := Lib.hid hd; have HO3 : Hid (∃ b, Value.ownBlock (.slice A2 (xs ++ ys).length k2) = some b ∧ w1.heap.size ≤ b) := Lib.hid (by rcases hat with e | ⟨b, e, hb⟩; rw [e]; exact HO2.out; exact ⟨b, e, Nat.le_trans HB2.out.size hb⟩); clear hd hg hat hk2 h3))
 go_ret
 have hd := HD3.out
 have h := H1.out
 rw [← List.length_append]
 have e3 : ∀ k, Value.ownBlock (.slice A2 (xs ++ ys).length k2) = some k → k ≠ B := fun k hk e => HX.out.apart hd (by rw [hk, e])
 have hge : ∀ k, Value.ownBlock (.slice A2 (xs ++ ys).length k2) = some k → w1.heap.size ≤ k := fun k hk => (hd.block hk).1
 refine ⟨rfl, _, ⟨HX.out.put0 _, ((hd.move fun k hk => Below.heap_setCell _ _ _ _ (e3 k hk)).lower (Nat.le_of_lt (Nat.lt_of_le_of_lt h.at_ hlt))), h.at_, m0, m1, by rw [List.length_append]; omega, h.s0, by have := h.s1; rw [List.length_append]; omega⟩, HF.out _ _ (DStep.put ⟨HB3.out.os, HB3.out.tape, HB3.out.output, HB3.out.size, fun k hk _ _ => HB3.out.block k hk, .inr HO3.out⟩ _ _)⟩
theorem refAppend_full {w : World} {base B : Nat} {v : Value} {xs : List Int} {s m : Int} (h : RefS w base B v xs s m) (A : Option Addr) (l c : Nat) (hl63 : l ≤ 9223372036854775807) (hroom : ¬ ((l : Int) ≤ m - (xs.length : Int))) : Calls Try.prog 30 #[.pointer (some ⟨B, 0, none⟩), .slice A l c] w fun e w' => e = .returned (.int .i64 12) ∧ ∃ n, w' = w.drewN n := by
 obtain ⟨A', c', rfl, hc⟩ := h.row.len
 have c0 := h.cells.c0
 have c2 := h.cells.c2
 have m0 := h.m0
 have m1 := h.m1
 have hl := h.len
 clear h
 go_enter Try.func30, Try.ntmps30
 go_wp2
 go_quiet (fail)
 go_wp2
 go_ret
 exact ⟨rfl, _, rfl⟩
theorem DRow.C_take {w : World} {base : Nat} {A : Option Addr} {c n : Nat} {xs : List Int} (h : DRow w base (.slice A xs.length c) xs) (hn : n ≤ xs.length) : Kd.C (Kd.int .u8) w A n (xs.take n) := (h.keep hn).C.2
theorem refCut_is {w : World} {base B : Nat} {v : Value} {xs : List Int} {s m : Int} (h : RefS w base B v xs s m) (n : Nat) (hn : n ≤ xs.length) : Calls Try.prog 36 #[.pointer (some ⟨B, 0, none⟩), .int .i64 n] w fun e w' => e = .returned (.int .i64 0) ∧ ∃ v', RefS w' base B v' (xs.take n) n m ∧ DStep w w' B v v' := by
 obtain ⟨A', c', rfl, hc⟩ := h.row.len
 have c0 := h.cells.c0
 have m0 := h.m0
 have m1 := h.m1
 have hl := h.len
 have hlt := h.cells.lt
 have hbe : Below w.heap.size w (w.alloc (.cells #[] 5)) := (Below.refl _ _).alloc (Nat.le_refl _) _
 have a0 : (w.alloc (.cells #[] 5)).cell? ⟨B, 0, none⟩ = some (.slice A' xs.length c') := (hbe.cell (p := ⟨B, 0, none⟩) hlt).trans c0
 have HE := Lib.hid hbe
 have H := Lib.hid h
 have hnc : n ≤ c' := Nat.le_trans hn hc
 have hn63 : n ≤ 9223372036854775807 := by omega
 clear h hbe
 have HT : Hid (Kd.C (Kd.int .u8) w A' (xs.take n).length (xs.take n)) := Lib.hid (by have := H.out.row.C_take hn; rwa [List.length_take, Nat.min_eq_left hn])
 have hlt2 : (xs.take n).length = n := by rw [List.length_take]; omega
 obtain ⟨zs, hzs⟩ : ∃ zs, xs.take n = zs := ⟨_, rfl⟩
 rw [hzs] at HT hlt2 ⊢
 subst hlt2
 have HZ := Lib.hid hzs
 clear hzs
 go_enter Try.func36, Try.ntmps36
 go_wp2_with (at_builtin; refine DRow.append_ev (w := w.alloc (.cells #[] 5)) (DRow.empty w w.heap.size (Nat.le_refl _)) (ys := zs) (c := c') (Kd.C_below HT.out HE.out) rfl (.tmp 17) (.tmp 23) rfl rfl rfl HE.out.size (by simp only [List.length_nil]; omega) ?_; intro v1 w2 hd hg hat; rw [List.nil_append] at hd; have HB2 := Lib.hid (HE.out.grown hg HE.out.size (fun k e => by cases e; exact Nat.le_refl _)); obtain ⟨A1, k1, rfl, hk1⟩ := hd.len; have HO2 : Hid (∃ b, Value.ownBlock (.slice A1 zs.length k1) = some b ∧ w.heap.size ≤ b) := Lib.hid (by rcases hat with e | ⟨b, e, hb⟩; exact ⟨_, e, Nat.le_refl _⟩; exact ⟨b, e, Nat.le_trans HE.out.size hb⟩); have h3 := H.out.cells.move (HB2.out.block B hlt); have k0 := h3.c0; have g0 := h3.f 0; have k1' := h3.c1; have g1 := h3.f 1; have HX := Lib.hid h3; have HD2 := Lib.hid hd; clear hd hg hat hk1 h3)
 go_ret
 have hd := HD2.out
 have h := H.out
 have e3 : ∀ k, Value.ownBlock (.slice A1 zs.length k1) = some k → k ≠ B := fun k hk e => HX.out.apart hd (by rw [hk, e])
 refine ⟨rfl, _, ⟨(HX.out.put0 _).put1 _, (((hd.move fun k hk => Below.heap_setCell _ _ _ _ (e3 k hk)).move fun k hk => Below.heap_setCell _ _ _ _ (e3 k hk)).lower (Nat.le_of_lt (Nat.lt_of_le_of_lt h.at_ hlt))), h.at_, m0, m1, by omega, by omega, by omega⟩, DStep.put (DStep.put (w := w) ⟨HB2.out.os, HB2.out.tape, HB2.out.output, HB2.out.size, fun k hk _ _ => HB2.out.block k hk, .inr HO2.out⟩ _ _) _ _⟩
theorem refCrash_bad {w : World} (B : Nat) (k : Int) (hk0 : k < 0) : Calls Try.prog 34 #[.pointer (some ⟨B, 0, none⟩), .int .i64 k] w fun e w' => e = .returned (.int .i64 1) ∧ w = w' := by
 go_enter Try.func34, Try.ntmps34
 go_wp2
 go_ret
 exact ⟨rfl, rfl⟩
theorem refCrash_is {w : World} {base B : Nat} {v : Value} {xs : List Int} {s m : Int} (h : RefS w base B v xs s m) (k : Int) (hk0 : 0 ≤ k) (hk1 : k ≤ 9223372036854775807) (n : Nat) (hn : (n : Int) = s + min k ((xs.length : Int) - s)) : Calls Try.prog 34 #[.pointer (some ⟨B, 0, none⟩), .int .i64 k] w fun e w' => e = .returned (.int .i64 0) ∧ ∃ v', RefS w' base B v' (xs.take n) n m ∧ DStep w w' B v v' := by
 obtain ⟨A', c', rfl, hc⟩ := h.row.len
 have c0 := h.cells.c0
 have c1 := h.cells.c1
 have m0 := h.m0
 have m1 := h.m1
 have hl := h.len
 have s0 := h.s0
 have s1 := h.s1
 have hnx : n ≤ xs.length := by omega
 have HT0 : Kd.C (Kd.int .u8) w A' (xs.take n).length (xs.take n) := by have := h.row.C_take hnx; rwa [List.length_take, Nat.min_eq_left hnx]
 have hlt2 : (xs.take n).length = n := by rw [List.length_take]; omega
 obtain ⟨zs, hzs⟩ : ∃ zs, xs.take n = zs := ⟨_, rfl⟩
 rw [hzs] at HT0 hlt2 ⊢
 subst hlt2
 have HZ := Lib.hid hzs
 have HN := Lib.hid hn
 have H := Lib.hid h
 have HT1 := Lib.hid HT0
 clear h hn hzs HT0
 go_enter Try.func34, Try.ntmps34
 go_wp2
 go_quiet (fail)
 have e2 : (s + if (xs.length : Int) - s < k then (xs.length : Int) - s else k) = (zs.length : Int) := by
  have := HN.out
  split <;> omega
 rw [e2]
 clear e2 c0 c1
 have H2 : Hid (RefS (w.drewN nq) base B (.slice A' xs.length c') xs s m) := Lib.hid (H.out.below (pw_below_drewN (Below.refl _ _) nq) (Nat.le_refl _))
 have HF : Hid (∀ w' v', DStep (w.drewN nq) w' B (.slice A' xs.length c') v' → DStep w w' B (.slice A' xs.length c') v') := Lib.hid fun w' v' h => ⟨h.os, h.tape, h.output, h.size, h.block, h.row⟩
 have HT : Hid (Kd.C (Kd.int .u8) (w.drewN nq) A' zs.length zs) := Lib.hid (Kd.C_below HT1.out (pw_below_drewN (Below.refl _ _) nq))
 clear H HT1
 generalize w.drewN nq = w1 at *
 have H := H2
 have hlt := H.out.cells.lt
 have hbe : Below w1.heap.size w1 (w1.alloc (.cells #[] 5)) := (Below.refl _ _).alloc (Nat.le_refl _) _
 have a0 : (w1.alloc (.cells #[] 5)).cell? ⟨B, 0, none⟩ = some (.slice A' xs.length c') := (hbe.cell (p := ⟨B, 0, none⟩) hlt).trans H.out.cells.c0
 have HE := Lib.hid hbe
 have hnc : zs.length ≤ c' := Nat.le_trans hnx hc
 have hn63 : zs.length ≤ 9223372036854775807 := by omega
 clear hbe H2
 go_wp2_with (at_builtin; refine DRow.append_ev (w := w1.alloc (.cells #[] 5)) (DRow.empty w1 w1.heap.size (Nat.le_refl _)) (ys := zs) (c := c') (Kd.C_below HT.out HE.out) rfl (.tmp 26) (.tmp 32) rfl rfl rfl HE.out.size (by simp only [List.length_nil]; omega) ?_; intro v1 w2 hd hg hat; rw [List.nil_append] at hd; have HB2 := Lib.hid (HE.out.grown hg HE.out.size (fun k e => by cases e; exact Nat.le_refl _)); obtain ⟨A1, k1, rfl, hk1⟩ := hd.len; have HO2 : Hid (∃ b, Value.ownBlock (.slice A1 zs.length k1) = some b ∧ w1.heap.size ≤ b) := Lib.hid (by rcases hat with e | ⟨b, e, hb⟩; exact ⟨_, e, Nat.le_refl _⟩; exact ⟨b, e, Nat.le_trans HE.out.size hb⟩); have h3 := H.out.cells.move (HB2.out.block B hlt); have k0 := h3.c0; have g0 := h3.f 0; have k1' := h3.c1; have g1 := h3.f 1; have HX := Lib.hid h3; have HD2 := Lib.hid hd; clear hd hg hat hk1 h3)
 all_goals
  go_ret
  have hd := HD2.out
  have h := H.out
  have e3 : ∀ k, Value.ownBlock (.slice A1 zs.length k1) = some k → k ≠ B := fun k hk e => HX.out.apart hd (by rw [hk, e])
  refine ⟨rfl, _, ⟨(HX.out.put0 _).put1 _, (((hd.move fun k hk => Below.heap_setCell _ _ _ _ (e3 k hk)).move fun k hk => Below.heap_setCell _ _ _ _ (e3 k hk)).lower (Nat.le_of_lt (Nat.lt_of_le_of_lt h.at_ hlt))), h.at_, m0, m1, by omega, by omega, by omega⟩, HF.out _ _ (DStep.put (DStep.put (w := w1) ⟨HB2.out.os, HB2.out.tape, HB2.out.output, HB2.out.size, fun k hk _ _ => HB2.out.block k hk, .inr HO2.out⟩ _ _) _ _)⟩
end Go.Proofs.Ytmbnjgnmblgjoaa.Man
end
section
namespace Go.Proofs.Ytmbnjgnmblgjoaa.Man
open Go.RowKit Go.Proofs.YtmbnjgnmblgjoaaW.PrintWords Go.Proofs.YtmbnjgnmblgjoaaW.PrintLast
set_option linter.unusedVariables false
set_option linter.unusedSimpArgs false
set_option maxRecDepth 100000
def Apart (v u : Value) : Prop := ∀ b, v.ownBlock = some b → u.ownBlock ≠ some b
theorem Apart.symm {v u : Value} (h : Apart v u) : Apart u v := fun b hu hv => h b hv hu
theorem Apart.nil (u : Value) : Apart (.slice none 0 0) u := fun b h => by cases h
theorem DStep.apart {w w1 : World} {B base : Nat} {v v' u : Value} {ys : List Int} (st : DStep w w1 B v v') (h : Apart v u) (hu : DRow w base u ys) : Apart v' u := fun b hv hub => by
 rcases st.row with e | ⟨c, e, hc⟩
 · rw [e] at hv; exact h b hv hub
 · rw [e] at hv
   cases hv
   have := (hu.block hub).2.1
   omega
theorem RefS.ref {w w1 : World} {base B B' : Nat} {v v' u : Value} {ys xs : List Int} {s m s' m' : Int} {base' : Nat} (h : RefS w base B' u ys s m) (k : DiskS w base' B v xs s' m') (st : DStep w w1 B v v') (hne : B' ≠ B) (ha : Apart v u) : RefS w1 base B' u ys s m :=
 { h with
  cells := h.cells.move (st.block _ h.cells.lt hne (h.cells.apart k.row))
  row := h.row.move fun b hb => st.block _ (h.row.block hb).2.1 (fun e => k.cells.apart h.row (by rw [hb, e])) (fun e => ha b e.symm hb) }
theorem DiskS.ref {w w1 : World} {base B B' : Nat} {v u u' : Value} {ys xs : List Int} {s m s' m' : Int} {base' : Nat} (h : DiskS w base B v xs s m) (k : RefS w base' B' u ys s' m') (st : DStep w w1 B' u u') (hne : B ≠ B') (ha : Apart v u) : DiskS w1 base B v xs s m :=
 { h with
  cells := h.cells.move (st.block _ h.cells.lt hne (h.cells.apart k.row))
  row := h.row.move fun b hb => st.block _ (h.row.block hb).2.1 (fun e => k.cells.apart h.row (by rw [hb, e])) (fun e => ha b hb e.symm) }
theorem DStep.drewN (w : World) (B : Nat) (v : Value) (n : Nat) : DStep w (w.drewN n) B v v := ⟨rfl, rfl, rfl, Nat.le_refl _, fun _ _ _ _ => rfl, .inl rfl⟩
structure Two (w : World) (base B B' : Nat) (v u : Value) (xs : List Int) (s m : Int) : Prop where
 d : DiskS w base B v xs s m
 r : RefS w base B' u xs s m
 ne : B ≠ B'
 ap : Apart v u
theorem Two.acted {w w1 w2 : World} {base B B' : Nat} {v u v' u' : Value} {xs xs' : List Int} {s m s' m' : Int} (h : Two w base B B' v u xs s m) (hd : DiskS w1 base B v' xs' s' m') (st : DStep w w1 B v v')
 (hr : RefS w2 base B' u' xs' s' m') (st2 : DStep w1 w2 B' u u') : Two w2 base B B' v' u' xs' s' m' ∧ Below base w w2 := by
 have r1 := h.r.ref h.d st h.ne.symm h.ap
 have a1 := st.apart h.ap h.r.row
 exact ⟨⟨hd.ref r1 st2 h.ne a1, hr, h.ne, (st2.apart a1.symm hd.row).symm⟩, (st.below h.d).trans (st2.belowR r1)⟩
theorem append_value {P : Program} {oi : Oper} {a : Act} {w w1 : World} {s x : Operand} {ts : Array TypeId} {v u v1 : Value} (ho : oi.op = .call { callee := .builtin .append, args := #[s, x], argTypes := ts })
 (hs : a.eval s = v) (hx : a.eval x = u) (hr : (Builtin.append_ ts oi.type #[v, u]).run P w = .ok v1 w1) : (execOp a.eval oi).run P w = .ok (.value v1) w1 := by
 unfold execOp
 simp only [ho, resolve, invoke, builtin, Sem.run_bind, Sem.run_pure, Result.andThen_ok, List.map_toArray, List.map_cons, List.map_nil, hs, hx, hr]
end Go.Proofs.Ytmbnjgnmblgjoaa.Man
end
section
namespace Go.Proofs.Ytmbnjgnmblgjoaa.Man
open Go.RowKit Go.Proofs.YtmbnjgnmblgjoaaW.PrintWords Go.Proofs.YtmbnjgnmblgjoaaW.PrintLast
set_option linter.unusedVariables false
set_option linter.unusedSimpArgs false
set_option maxRecDepth 100000
def appE (m : Int) (xs ys : List Int) : Int := if (ys.length : Int) ≤ m - (xs.length : Int) then 0 else 12
def appL (m : Int) (xs ys : List Int) : List Int := if (ys.length : Int) ≤ m - (xs.length : Int) then xs ++ ys else xs
def cutE (xs : List Int) (n : Int) : Int := if n < 0 ∨ (xs.length : Int) < n then 1 else 0
def cutL (xs : List Int) (n : Int) : List Int := if n < 0 ∨ (xs.length : Int) < n then xs else xs.take n.toNat
def cutS (xs : List Int) (s n : Int) : Int := if n < 0 ∨ (xs.length : Int) < n then s else n
def crE (k : Int) : Int := if k < 0 then 1 else 0
def crL (xs : List Int) (s k : Int) : List Int := if k < 0 then xs else xs.take (s + min k ((xs.length : Int) - s)).toNat
def crS (xs : List Int) (s k : Int) : Int := if k < 0 then s else s + min k ((xs.length : Int) - s)
theorem append_any {w : World} {base B : Nat} {v : Value} {xs ys : List Int} {s m : Int} (h : DiskS w base B v xs s m) (A : Option Addr) (c : Nat) (HR : Kd.C (Kd.int .u8) w A ys.length ys) : Calls Try.prog 29 #[.pointer (some ⟨B, 0, none⟩), .slice A ys.length c] w fun e w' => e = .returned (.int .i64 (appE m xs ys)) ∧ ∃ v', DiskS w' base B v' (appL m xs ys) s m ∧ DStep w w' B v v' := by
 unfold appE appL
 by_cases hr : (ys.length : Int) ≤ m - (xs.length : Int)
 · rw [if_pos hr, if_pos hr]; exact append_is h A c HR hr
 · rw [if_neg hr, if_neg hr]
   refine (append_full h A ys.length c HR.2.1 hr).mono ?_
   rintro e w' ⟨rfl, n, rfl⟩
   exact ⟨rfl, v, h.below (pw_below_drewN (Below.refl _ _) n) (Nat.le_refl _), DStep.drewN _ _ _ _⟩
theorem refAppend_any {w : World} {base B : Nat} {v : Value} {xs ys : List Int} {s m : Int} (h : RefS w base B v xs s m) (A : Option Addr) (c : Nat) (HR : Kd.C (Kd.int .u8) w A ys.length ys) : Calls Try.prog 30 #[.pointer (some ⟨B, 0, none⟩), .slice A ys.length c] w fun e w' => e = .returned (.int .i64 (appE m xs ys)) ∧ ∃ v', RefS w' base B v' (appL m xs ys) s m ∧ DStep w w' B v v' := by
 unfold appE appL
 by_cases hr : (ys.length : Int) ≤ m - (xs.length : Int)
 · rw [if_pos hr, if_pos hr]; exact refAppend_is h A c HR hr
 · rw [if_neg hr, if_neg hr]
   refine (refAppend_full h A ys.length c HR.2.1 hr).mono ?_
   rintro e w' ⟨rfl, n, rfl⟩
   exact ⟨rfl, v, h.below (pw_below_drewN (Below.refl _ _) n) (Nat.le_refl _), DStep.drewN _ _ _ _⟩
theorem crash_any {w : World} {base B : Nat} {v : Value} {xs : List Int} {s m : Int} (h : DiskS w base B v xs s m) (k : Int) (hk : k ≤ 9223372036854775807) : Calls Try.prog 33 #[.pointer (some ⟨B, 0, none⟩), .int .i64 k] w fun e w' => e = .returned (.int .i64 (crE k)) ∧ ∃ v', DiskS w' base B v' (crL xs s k) (crS xs s k) m ∧ DStep w w' B v v' := by
 unfold crE crL crS
 by_cases hr : k < 0
 · rw [if_pos hr, if_pos hr, if_pos hr]
   refine (crash_bad h k hr).mono ?_
   rintro e w' ⟨rfl, rfl⟩
   exact ⟨rfl, v, h, DStep.refl _ _ _⟩
 · rw [if_neg hr, if_neg hr, if_neg hr]
   have h1 := h.s0
   have h2 := h.s1
   obtain ⟨n, hn⟩ : ∃ n : Nat, s + min k ((xs.length : Int) - s) = (n : Int) := ⟨(s + min k ((xs.length : Int) - s)).toNat, by omega⟩
   rw [hn, Int.toNat_natCast]
   exact crash_is h k (by omega) hk n hn.symm
theorem refCrash_any {w : World} {base B : Nat} {v : Value} {xs : List Int} {s m : Int} (h : RefS w base B v xs s m) (k : Int) (hk : k ≤ 9223372036854775807) : Calls Try.prog 34 #[.pointer (some ⟨B, 0, none⟩), .int .i64 k] w fun e w' => e = .returned (.int .i64 (crE k)) ∧ ∃ v', RefS w' base B v' (crL xs s k) (crS xs s k) m ∧ DStep w w' B v v' := by
 unfold crE crL crS
 by_cases hr : k < 0
 · rw [if_pos hr, if_pos hr, if_pos hr]
   refine (refCrash_bad B k hr).mono ?_
   rintro e w' ⟨rfl, rfl⟩
   exact ⟨rfl, v, h, DStep.refl _ _ _⟩
 · rw [if_neg hr, if_neg hr, if_neg hr]
   have h1 := h.s0
   have h2 := h.s1
   obtain ⟨n, hn⟩ : ∃ n : Nat, s + min k ((xs.length : Int) - s) = (n : Int) := ⟨(s + min k ((xs.length : Int) - s)).toNat, by omega⟩
   rw [hn, Int.toNat_natCast]
   exact refCrash_is h k (by omega) hk n hn.symm
end Go.Proofs.Ytmbnjgnmblgjoaa.Man
end
