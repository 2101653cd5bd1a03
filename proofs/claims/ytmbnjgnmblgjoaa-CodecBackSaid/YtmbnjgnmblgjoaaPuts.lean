/- codec.PutDoc, PutEntry of the given program: what they come to. -/
import Derived.Test.YtmbnjgnmblgjoaaPutEntry
import Derived.Test.YtmbnjgnmblgjoaaCheckMath
namespace Go.Proofs.Ytmbnjgnmblgjoaa.Man
open Go.RowKit Go.Proofs.YtmbnjgnmblgjoaaW.PrintWords Go.Proofs.YtmbnjgnmblgjoaaW.PrintLast Go.Proofs.YtmbnjgnmblgjoaaW.PrintMore
set_option linter.unusedVariables false
set_option linter.unusedSimpArgs false
set_option maxRecDepth 100000

theorem bstr_of {w : World} {A : Option Addr} {n : Nat} {c : Nat} {xs : List Int} (h : Kd.C (Kd.int .u8) w A n xs) : (convert 27 9 (.slice A n c)).run Try.prog w = .ok (.string (strOfNums xs)) w :=
  Kd.C_string (e := 5) (by kernel_rfl) (by kernel_rfl) (by kernel_rfl) h
theorem doc_is (A : Option Addr) (c : Nat) (l : List K.S111) (w : World) (hr : Kd.C K.k111 w A l.length l) (hc : l.length ≤ c) :
    Calls Try.prog 103 #[.slice A l.length c] w fun e w' => e = .returned (.int .i64 (docE l)) ∧ Below w.heap.size w w' :=
  K.codec_doc.calls 2050 A c l _ w hr hc (doc_f l)
/-- An entry's cells. -/
abbrev entV (x : K.S26) (A : Option Addr) (c : Nat) : Value := .agg #[.int .i64 x.f0, .int .i64 x.f1, .int .i64 x.f2.f0, .int .i64 x.f2.f1, .int .i64 x.f2.f2, .int .i64 x.f2.f3, .int .i64 x.f2.f4, .int .i64 x.f2.f5, .slice A x.f2.f6.length c, .int .i64 x.f2.f7]
theorem entry_is (x : K.S26) (A : Option Addr) (c : Nat) (w : World) (hr : Kd.C K.k111 w A x.f2.f6.length x.f2.f6) (hc : x.f2.f6.length ≤ c) :
    Calls Try.prog 87 #[entV x A c] w fun e w' => e = .returned (.int .i64 (entryE x)) ∧ Below w.heap.size w w' :=
  K.codec_entry.calls 2060 _ _ _ _ _ _ _ _ A c _ _ _ w hr hc (entry_f x)

theorem right_tok {x : K.S111} (h : rightB x = true) : TokOk x := by
  unfold rightB at h
  rw [decide_eq_true_eq] at h
  unfold TokOk
  omega
theorem docE_zero {l : List K.S111} (h : docE l = 0) : l.length ≤ 2048 ∧ ∀ x ∈ l, rightB x = true := by
  unfold docE at h
  split at h
  · cases h
  · split at h
    · rename_i h1 h2
      exact ⟨by omega, List.all_eq_true.1 h2⟩
    · cases h
theorem oneMark_of {m : Int} (h : oneMark m = true) : m = 1 ∨ m = 2 ∨ m = 4 := by
  unfold oneMark at h
  simpa using h
theorem entryE_zero {x : K.S26} (h : entryE x = 0) : EntOk x := by
  unfold entryE at h
  split at h
  · cases h
  rename_i h1
  unfold stepE at h
  split at h
  · cases h
  rename_i h2
  split at h
  case isFalse => cases h
  rename_i h3
  unfold stepOk at h3
  simp only [Bool.and_eq_true, decide_eq_true_eq] at h3
  obtain ⟨⟨a1, a2, a3⟩, hk, ha⟩ := h3
  rw [List.all_eq_true] at ha
  have hkk : (x.f2.f0 = 1 ∧ x.f2.f1 ≤ x.f2.f3 ∧ x.f2.f3 < x.f2.f4 ∧ x.f2.f4 ≤ x.f2.f2 ∧ 0 ≤ x.f2.f5 ∧ x.f2.f5 ≤ (x.f2.f6.length : Int) ∧ x.f2.f7 = 0) ∨ (x.f2.f0 = 0 ∧ x.f2.f7 = 0 ∧ x.f2.f3 = 0 ∧ x.f2.f4 = 0 ∧ x.f2.f5 = 0) ∨ ((x.f2.f0 = 2 ∨ x.f2.f0 = 3) ∧ (x.f2.f7 = 1 ∨ x.f2.f7 = 2 ∨ x.f2.f7 = 4) ∧ x.f2.f3 = 0 ∧ x.f2.f4 = 0 ∧ x.f2.f5 = 0) := by
    unfold kindOk gaps0 at hk
    split at hk
    · rename_i q
      rw [decide_eq_true_eq] at hk
      exact .inl ⟨q, hk⟩
    · split at hk
      · rename_i q
        simp only [Bool.and_eq_true, beq_iff_eq] at hk
        exact .inr (.inl ⟨q, hk.1, hk.2.1, hk.2.2.1, hk.2.2.2⟩)
      · split at hk
        · rename_i q
          simp only [Bool.and_eq_true, beq_iff_eq, decide_eq_true_eq] at hk
          exact .inr (.inr ⟨q, oneMark_of hk.2.1, hk.2.2.2.1, hk.2.2.2.2.1, hk.2.2.2.2.2⟩)
        · cases hk
  exact ⟨by omega, by omega, by omega, by omega, by omega, by omega, by omega, by omega, by omega, by omega, fun t ht => right_tok (ha t ht)⟩

/-- Tokens' bytes, and why there are none. -/
def putDocF (l : List K.S111) : List Int × Int := (if docE l = 0 then docB l else [], docE l)
def putEntryF (x : K.S26) : List Int × Int := (if entryE x = 0 then entryB x else [], entryE x)

set_option maxHeartbeats 4000000 in
theorem putDoc_is (A : Option Addr) (c : Nat) (l : List K.S111) (w : World) (hr : Kd.C K.k111 w A l.length l) (hc : l.length ≤ c) :
    Calls Try.prog 49 #[.slice A l.length c] w fun e w' => ∃ v, e = .returned (.tuple #[v, .int .i64 (docE l)]) ∧ BR w' w.heap.size v (putDocF l).1 ∧ Below w.heap.size w w' := by
  unfold putDocF
  simp only
  have HD := Lib.hid (doc_is A c l w hr hc)
  have HC := Lib.hid hr
  have hz := @docE_zero l
  obtain ⟨er, her⟩ : ∃ er, docE l = er := ⟨_, rfl⟩
  rw [her] at HD hz ⊢
  clear hr her
  by_cases h0 : er = 0
  · subst h0
    obtain ⟨hl, hok⟩ := hz rfl
    have HOK := Lib.hid (fun x hx => right_tok (hok x hx))
    clear hok hz
    rw [if_pos rfl]
    go_enter Try.func49, Try.ntmps49
    go_upto_region 4 with (go_at_call 103; refine HD.out.mono ?_; rintro e w1 ⟨rfl, hb⟩; have HB1 := Lib.hid hb; clear hb)
    have hbe : Below w.heap.size w (w1.alloc (.cells #[.slice none 0 0] 129)) := HB1.out.alloc HB1.out.size _
    have hW : WrS (w1.alloc (.cells #[.slice none 0 0] 129)) w.heap.size w1.heap.size [] := ⟨_, World.alloc_heap_new w1 _, Kd.R_nil _ _ _ _ _⟩
    have HE := Lib.hid hbe
    have HW := Lib.hid hW
    clear hbe hW
    go_wp2_with (go_at_call 104; refine (wdoc_is HW.out HB1.out.size HE.out.size A c l HC.out HE.out (Nat.le_refl _) hl HOK.out (by simp)).mono ?_; rintro e w2 ⟨rfl, hw, hg⟩; rw [List.nil_append] at hw; have HB := Lib.hid (below_of_grown HE.out hg HB1.out.size); obtain ⟨v1, hk, hv⟩ := hw.ex; have HR := Lib.hid hv; have c0 := hk.c0; clear hw hg hk hv)
    go_ret2
    exact ⟨v1, rfl, HR.out, HB.out⟩
  · rw [if_neg h0]
    have hb : (er != 0) = true := by simpa using h0
    clear h0 hz
    go_enter Try.func49, Try.ntmps49
    go_wp2_with (go_at_call 103; refine HD.out.mono ?_; rintro e w1 ⟨rfl, hb⟩; have HB1 := Lib.hid hb; clear hb)
    go_ret2
    exact ⟨_, rfl, Kd.R_nil _ _ _ _ _, HB1.out⟩

/-- An entry that lies in a block. -/
def EntAt (w : World) (P : Nat) (x : K.S26) (A : Option Addr) (c : Nat) : Prop := w.heap[P]? = some (.cells #[.int .i64 x.f0, .int .i64 x.f1, .int .i64 x.f2.f0, .int .i64 x.f2.f1, .int .i64 x.f2.f2, .int .i64 x.f2.f3, .int .i64 x.f2.f4, .int .i64 x.f2.f5, .slice A x.f2.f6.length c, .int .i64 x.f2.f7] 26 (0, 0))
theorem EntAt.lt {w : World} {P c : Nat} {x : K.S26} {A : Option Addr} (h : EntAt w P x A c) : P < w.heap.size := (Array.getElem?_eq_some_iff.1 h).1
theorem EntAt.c {w : World} {P c : Nat} {x : K.S26} {A : Option Addr} (h : EntAt w P x A c) : w.cell? ⟨P, 0, none⟩ = some (.int .i64 x.f0) ∧ w.cell? ⟨P, 1, none⟩ = some (.int .i64 x.f1) ∧ w.cell? ⟨P, 2, none⟩ = some (.int .i64 x.f2.f0) ∧ w.cell? ⟨P, 3, none⟩ = some (.int .i64 x.f2.f1) ∧ w.cell? ⟨P, 4, none⟩ = some (.int .i64 x.f2.f2) ∧
    w.cell? ⟨P, 5, none⟩ = some (.int .i64 x.f2.f3) ∧ w.cell? ⟨P, 6, none⟩ = some (.int .i64 x.f2.f4) ∧ w.cell? ⟨P, 7, none⟩ = some (.int .i64 x.f2.f5) ∧ w.cell? ⟨P, 8, none⟩ = some (.slice A x.f2.f6.length c) ∧ w.cell? ⟨P, 9, none⟩ = some (.int .i64 x.f2.f7) := by
  simp [World.cell?, show w.heap[P]? = _ from h]

set_option maxHeartbeats 8000000 in
theorem putEntry_is (x : K.S26) (A : Option Addr) (c : Nat) (w : World) (hr : Kd.C K.k111 w A x.f2.f6.length x.f2.f6) (hc : x.f2.f6.length ≤ c) :
    Calls Try.prog 19 #[entV x A c] w fun e w' => ∃ v, e = .returned (.tuple #[v, .int .i64 (entryE x)]) ∧ BR w' w.heap.size v (putEntryF x).1 ∧ Below w.heap.size w w' := by
  unfold putEntryF
  simp only
  obtain ⟨w1, hw1⟩ : ∃ w1, w1 = w.alloc (.cells #[.int .i64 x.f0, .int .i64 x.f1, .int .i64 x.f2.f0, .int .i64 x.f2.f1, .int .i64 x.f2.f2, .int .i64 x.f2.f3, .int .i64 x.f2.f4, .int .i64 x.f2.f5, .slice A x.f2.f6.length c, .int .i64 x.f2.f7] 26) := ⟨_, rfl⟩
  have hb1 : Below w.heap.size w w1 := by rw [hw1]; exact (Below.refl _ _).alloc (Nat.le_refl _) _
  have hz1 : w1.heap.size = w.heap.size + 1 := by rw [hw1]; exact World.size_alloc _ _
  have hE1 : EntAt w1 w.heap.size x A c := by rw [hw1]; exact World.alloc_heap_new w _
  have hD := entry_is x A c w1 (Kd.C_below hr hb1) hc
  rw [hw1] at hD
  have hz := @entryE_zero x
  obtain ⟨er, her⟩ : ∃ er, entryE x = er := ⟨_, rfl⟩
  rw [her] at hD hz ⊢
  have HD := Lib.hid hD
  have HC := Lib.hid hr
  have HB1 := Lib.hid hb1
  have HE1 := Lib.hid hE1
  have HZ := Lib.hid hz1
  have HW1 : Hid (w1 = w.alloc (.cells #[.int .i64 x.f0, .int .i64 x.f1, .int .i64 x.f2.f0, .int .i64 x.f2.f1, .int .i64 x.f2.f2, .int .i64 x.f2.f3, .int .i64 x.f2.f4, .int .i64 x.f2.f5, .slice A x.f2.f6.length c, .int .i64 x.f2.f7] 26)) := Lib.hid hw1
  clear hr her hD hb1 hz1 hE1 hw1
  by_cases h0 : er = 0
  · subst h0
    have HOK := Lib.hid (hz rfl)
    clear hz
    rw [if_pos rfl]
    go_enter Try.func19, Try.ntmps19
    go_upto_region 4 with (go_at_call 87; refine HD.out.mono ?_; rintro e w2 ⟨rfl, hb⟩; rw [← HW1.out] at hb; have HX2 := Lib.hid hb; clear hb)
    have hbe : Below w1.heap.size w1 (w2.alloc (.cells #[.slice none 0 0] 129)) := HX2.out.alloc HX2.out.size _
    have hW : WrS (w2.alloc (.cells #[.slice none 0 0] 129)) w1.heap.size w2.heap.size [] := ⟨_, World.alloc_heap_new w2 _, Kd.R_nil _ _ _ _ _⟩
    have hE3 : EntAt (w2.alloc (.cells #[.slice none 0 0] 129)) w.heap.size x A c := (hbe.block _ HE1.out.lt).trans HE1.out
    obtain ⟨c0, c1, c2, c3, c4, c5, c6, c7, c8, c9⟩ := hE3.c
    have HE := Lib.hid (HB1.out.trans (hbe.mono HB1.out.size))
    have HEE := Lib.hid hbe
    have HW := Lib.hid hW
    clear hbe hW hE3
    go_wp2_with (go_at_call 88; refine (wentry_is HW.out HX2.out.size HEE.out.size x A c HC.out HE.out HB1.out.size HOK.out (by simp)).mono ?_; rintro e w3 ⟨rfl, hw, hg⟩; rw [List.nil_append] at hw; have HB := Lib.hid (below_of_grown HE.out hg (Nat.le_trans HB1.out.size HX2.out.size)); obtain ⟨v1, hk, hv⟩ := hw.ex; have HR := Lib.hid (Kd.R_lower hv HB1.out.size); have g0 := hk.c0; clear hw hg hk hv)
    go_ret2
    exact ⟨v1, rfl, HR.out, HB.out⟩
  · rw [if_neg h0]
    have hb : (er != 0) = true := by simpa using h0
    clear h0 hz
    go_enter Try.func19, Try.ntmps19
    go_wp2_with (go_at_call 87; refine HD.out.mono ?_; rintro e w2 ⟨rfl, hb⟩; rw [← HW1.out] at hb; have HB2 := Lib.hid (HB1.out.trans (hb.mono HB1.out.size)); clear hb)
    go_ret2
    exact ⟨_, rfl, Kd.R_nil _ _ _ _ _, HB2.out⟩
end Go.Proofs.Ytmbnjgnmblgjoaa.Man
