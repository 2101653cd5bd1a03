/- A store of two slots (layer 30): what a disk holds; a store's block; its save under way. -/
import Derived.Test.YtmbnjgnmblgjoaaFrameMath
import Derived.Test.YtmbnjgnmblgjoaaChunkWhole
import Derived.Test.YtmbnjgnmblgjoaaActs
import Derived.Test.YtmbnjgnmblgjoaaDiskCopy
import Derived.Test.YtmbnjgnmblgjoaaWriter
namespace Go.Proofs.Ytmbnjgnmblgjoaa.Man
open Go.RowKit Go.Proofs.YtmbnjgnmblgjoaaW.PrintWords Go.Proofs.YtmbnjgnmblgjoaaW.PrintLast Go.Proofs.YtmbnjgnmblgjoaaW.PrintMore
set_option linter.unusedVariables false
set_option linter.unusedSimpArgs false
set_option maxRecDepth 100000

/-- What a disk's bytes hold: the bytes behind the number, the number, whether. -/
def heldF (xs : List Int) : List Int × Int × Bool :=
  if (openF xs 0).2.2 ≠ 0 then ([], 0, false)
  else if (openF xs 0).2.1 ≠ (xs.length : Int) then ([], 0, false)
  else if (getF (openF xs 0).1 0).2.2 ≠ 0 then ([], 0, false)
  else ((openF xs 0).1.drop (getF (openF xs 0).1 0).2.1.toNat, (getF (openF xs 0).1 0).1, true)
theorem heldF_le (xs : List Int) : (heldF xs).1.length ≤ xs.length := by
  unfold heldF
  split <;> try simp
  split <;> try simp
  split <;> try simp
  have : (openF xs 0).1.length ≤ xs.length := by
    unfold openF
    split <;> try simp
    split <;> try simp
    split <;> try simp
    split <;> try simp
    unfold mid
    rw [List.length_drop, List.length_take]
    omega
  omega
theorem mid_bytes (b : List Int) (i j : Int) (h : areBytesN b = true) : areBytesN (mid b i j) = true := areBytesN_drop (areBytesN_take h _) _
theorem openF_bytes (xs : List Int) (at_ : Int) (h : areBytesN xs = true) : areBytesN (openF xs at_).1 = true := by
  unfold openF
  split <;> try rfl
  split <;> try rfl
  split <;> try rfl
  split <;> try rfl
  exact mid_bytes _ _ _ h

def HeldAt (w : World) (B : Nat) (v0 v1 v2 : Value) : Prop := w.heap[B]? = some (.cells #[v0, v1, v2] 165 (0, 0))
theorem HeldAt.c0 {w : World} {B : Nat} {v0 v1 v2 : Value} (k : HeldAt w B v0 v1 v2) : w.cell? ⟨B, 0, none⟩ = some v0 := by simp [World.cell?, show w.heap[B]? = _ from k]
theorem HeldAt.c1 {w : World} {B : Nat} {v0 v1 v2 : Value} (k : HeldAt w B v0 v1 v2) : w.cell? ⟨B, 1, none⟩ = some v1 := by simp [World.cell?, show w.heap[B]? = _ from k]
theorem HeldAt.c2 {w : World} {B : Nat} {v0 v1 v2 : Value} (k : HeldAt w B v0 v1 v2) : w.cell? ⟨B, 2, none⟩ = some v2 := by simp [World.cell?, show w.heap[B]? = _ from k]
theorem HeldAt.f {w : World} {B : Nat} {v0 v1 v2 : Value} (k : HeldAt w B v0 v1 v2) (j : Nat) : w.frozen? ⟨B, j, none⟩ = false := by simp [World.frozen?, show w.heap[B]? = _ from k]
theorem HeldAt.lt {w : World} {B : Nat} {v0 v1 v2 : Value} (k : HeldAt w B v0 v1 v2) : B < w.heap.size := (Array.getElem?_eq_some_iff.1 k).1
theorem HeldAt.put {w : World} {B : Nat} {v0 v1 v2 : Value} (k : HeldAt w B v0 v1 v2) (u0 u1 u2 : Value) : HeldAt (((w.setCell ⟨B, 0, none⟩ u0).setCell ⟨B, 1, none⟩ u1).setCell ⟨B, 2, none⟩ u2) B u0 u1 u2 := by
  unfold HeldAt World.setCell
  simp [Array.getElem?_modify, show w.heap[B]? = _ from k]
theorem HeldAt.below {w w1 : World} {B m : Nat} {v0 v1 v2 : Value} (k : HeldAt w B v0 v1 v2) (h : Below m w w1) (hm : B < m) : HeldAt w1 B v0 v1 v2 := (h.block B hm).trans k

set_option maxHeartbeats 8000000 in
theorem look_is {w : World} {base B : Nat} {v : Value} {xs : List Int} {s m : Int} (h : DiskS w base B v xs s m) (hB : areBytesN xs = true) :
    Calls Try.prog 152 #[.pointer (some ⟨B, 0, none⟩)] w fun e w' => ∃ A c, e = .returned (.agg #[.slice A (heldF xs).1.length c, .int .u64 (heldF xs).2.1, .bool (heldF xs).2.2]) ∧ Kd.C (Kd.int .u8) w' A (heldF xs).1.length (heldF xs).1 ∧ Below w.heap.size w w' := by
  have hm : (xs.length : Int) ≤ 262144 := by have := h.len; have := h.m1; omega
  obtain ⟨hv, hhv⟩ : ∃ hv, heldF xs = hv := ⟨_, rfl⟩
  rw [hhv]
  unfold heldF at hhv
  have hob := openF_bytes xs 0 hB
  have ho := fun A c (W : World) hr hc => open_any A c xs 0 W hr hc hB (by omega)
  obtain ⟨⟨b, nx, er⟩, hop⟩ : ∃ r, openF xs 0 = r := ⟨_, rfl⟩
  rw [hop] at hhv hob ho
  simp only at hhv hob ho
  have hg := fun A c (W : World) hr hc => get_any A c b 0 W hr hc hob
  have hgr := getF_range b 0 hob
  obtain ⟨⟨g, at_, eg⟩, hge⟩ : ∃ r, getF b 0 = r := ⟨_, rfl⟩
  rw [hge] at hhv hg hgr
  simp only at hhv hg hgr
  have hbe : Below w.heap.size w (w.alloc (.cells #[.slice none 0 0, .int .u64 0, .bool false] 165)) := (Below.refl _ _).alloc (Nat.le_refl _) _
  have H := Lib.hid (h.below hbe (Nat.le_refl _))
  have HE := Lib.hid hbe
  have HK : Hid (HeldAt (w.alloc (.cells #[.slice none 0 0, .int .u64 0, .bool false] 165)) w.heap.size (.slice none 0 0) (.int .u64 0) (.bool false)) := Lib.hid (World.alloc_heap_new w _)
  have hsz : (w.alloc (.cells #[.slice none 0 0, .int .u64 0, .bool false] 165)).heap.size = w.heap.size + 1 := World.size_alloc _ _
  have HZ := Lib.hid hsz
  have HO := Lib.hid ho
  have HG := Lib.hid hg
  clear h hbe ho hg hB hop hge hsz
  have hnil : ∀ W : World, Kd.C (Kd.int .u8) W none ([] : List Int).length [] := fun W => C_nil W .u8
  have HN := Lib.hid hnil
  have HOB := Lib.hid hob
  clear hnil hob
  have HR := Lib.hid hgr
  have HCUT : Hid (eg = 0 → ∀ A c, b.length ≤ c → ∃ A' : Option Addr, (∀ W : World, (Instr.slice 27 (.slice A b.length c) (some (.int .i64 at_)) none none).run Try.prog W = .ok (.slice A' (b.drop at_.toNat).length (c - at_.toNat)) W) ∧
      (∀ w : World, Kd.C (Kd.int .u8) w A b.length b → Kd.C (Kd.int .u8) w A' (b.drop at_.toNat).length (b.drop at_.toNat))) := Lib.hid fun he A c hc => by
    obtain ⟨i0, hi0, hsz0⟩ : ∃ i0, Try.prog.info? 5 = some i0 ∧ i0.size = 1 := by obtain ⟨i0, h, _, h2, _⟩ := info_parts info_u8; exact ⟨i0, h, h2⟩
    obtain ⟨_, q1, q2, _⟩ := hgr he
    obtain ⟨A', p1, p2, _⟩ := print_drop_of (P := Try.prog) (Value.int .u8) 0 27 5 .i64 Try.underlying27 hi0 hsz0 A c b at_ q1 q2 hc
    exact ⟨A', p1, fun w h => Kd.C_of_reads (h1 := fun _ => rfl) (p2 w (Kd.reads_of_C h))⟩
  clear hgr
  by_cases h1 : er ≠ 0 ∨ nx ≠ (xs.length : Int)
  · have hh : hv = ([], 0, false) := by
      rw [← hhv]
      by_cases q : er ≠ 0
      · rw [if_pos q]
      · rw [if_neg q, if_pos (by omega)]
    subst hh
    clear hhv
    rcases (show er ≠ 0 ∨ (er = 0 ∧ nx ≠ (xs.length : Int)) by omega) with q | ⟨rfl, q⟩
    all_goals
      first | (have q1 : (er != 0) = true := (by simpa using q)) | (have q1 : (nx != (xs.length : Int)) = true := (by simpa using q))
      go_enter Try.func152, Try.ntmps152
      go_wp2_with (first
        | (go_at_call 38; refine (bytes_is H.out).mono ?_; rintro e w1 ⟨u, rfl, hr, hb⟩; obtain ⟨A1, k1, rfl, hk1, hC1⟩ := Kd.R_reads hr; have HC1 := Lib.hid hC1; have HB1 := Lib.hid (HE.out.trans (hb.mono HE.out.size)); have HK1 := Lib.hid (HK.out.below hb (by rw [HZ.out]; omega)); have H1 := Lib.hid (H.out.below hb (Nat.le_refl _)); clear hr hb hC1)
        | (go_at_call 22; refine (HO.out A1 k1 _ HC1.out hk1).mono ?_; rintro e w2 ⟨u, rfl, hr, hb⟩; obtain ⟨A2, k2, rfl, hk2, hC2⟩ := BR.len hr; have HC2 := Lib.hid hC2; have HR2 := Lib.hid hr; have HB2 := Lib.hid (HB1.out.trans (hb.mono HB1.out.size)); have hk2' := HK1.out.below hb HK1.out.lt; have HK2 := Lib.hid hk2'; have H2 := Lib.hid (H1.out.below hb (Nat.le_refl _)); have c0 := hk2'.c0; have c1 := hk2'.c1; have c2 := hk2'.c2; have f0 := hk2'.f 0; have f1 := hk2'.f 1; have f2 := hk2'.f 2; clear hr hb hC2 hk2')
        | (go_at_call 39; refine (len_is H2.out).mono ?_; rintro e w' ⟨rfl, rfl⟩))
      have HP := Lib.hid (HK2.out.put (.slice none 0 0) (.int .u64 0) (.bool false))
      have d0 := HP.out.c0
      have d1 := HP.out.c1
      have d2 := HP.out.c2
      refine bodyPost_ret (v := .agg #[.slice none 0 0, .int .u64 0, .bool false]) (by simp [results, Try.results152, go_sem, d0, d1, d2]) rfl ?_
      exact ⟨none, 0, rfl, HN.out _, ((HB2.out.setCell (Nat.le_refl _) _).setCell (Nat.le_refl _) _).setCell (Nat.le_refl _) _⟩
  obtain ⟨rfl, rfl⟩ : er = 0 ∧ nx = (xs.length : Int) := by omega
  rw [if_neg (by simp), if_neg (by simp)] at hhv
  clear h1
  by_cases h3 : eg ≠ 0
  · rw [if_pos h3] at hhv
    subst hhv
    have q1 : (eg != 0) = true := by simpa using h3
    go_enter Try.func152, Try.ntmps152
    go_wp2_with (first
      | (go_at_call 38; refine (bytes_is H.out).mono ?_; rintro e w1 ⟨u, rfl, hr, hb⟩; obtain ⟨A1, k1, rfl, hk1, hC1⟩ := Kd.R_reads hr; have HC1 := Lib.hid hC1; have HB1 := Lib.hid (HE.out.trans (hb.mono HE.out.size)); have HK1 := Lib.hid (HK.out.below hb (by rw [HZ.out]; omega)); have H1 := Lib.hid (H.out.below hb (Nat.le_refl _)); clear hr hb hC1)
      | (go_at_call 22; refine (HO.out A1 k1 _ HC1.out hk1).mono ?_; rintro e w2 ⟨u, rfl, hr, hb⟩; obtain ⟨A2, k2, rfl, hk2, hC2⟩ := BR.len hr; have HC2 := Lib.hid hC2; have HR2 := Lib.hid hr; have HB2 := Lib.hid (HB1.out.trans (hb.mono HB1.out.size)); have hk2' := HK1.out.below hb HK1.out.lt; have HK2 := Lib.hid hk2'; have H2 := Lib.hid (H1.out.below hb (Nat.le_refl _)); have c0 := hk2'.c0; have c1 := hk2'.c1; have c2 := hk2'.c2; have f0 := hk2'.f 0; have f1 := hk2'.f 1; have f2 := hk2'.f 2; clear hr hb hC2 hk2')
      | (go_at_call 39; refine (len_is H2.out).mono ?_; rintro e w' ⟨rfl, rfl⟩)
      | (go_at_call 91; refine (HG.out A2 k2 _ HC2.out hk2).mono ?_; rintro e w' ⟨rfl, rfl⟩))
    have HP := Lib.hid (HK2.out.put (.slice none 0 0) (.int .u64 0) (.bool false))
    have d0 := HP.out.c0
    have d1 := HP.out.c1
    have d2 := HP.out.c2
    refine bodyPost_ret (v := .agg #[.slice none 0 0, .int .u64 0, .bool false]) (by simp [results, Try.results152, go_sem, d0, d1, d2]) rfl ?_
    exact ⟨none, 0, rfl, HN.out _, ((HB2.out.setCell (Nat.le_refl _) _).setCell (Nat.le_refl _) _).setCell (Nat.le_refl _) _⟩
  rw [if_neg h3] at hhv
  obtain rfl : eg = 0 := by omega
  subst hhv
  have HCU := Lib.hid (HCUT.out rfl)
  clear HCUT
  obtain ⟨dr, hdr⟩ : ∃ dr, b.drop at_.toNat = dr := ⟨_, rfl⟩
  rw [hdr] at HCU
  rw [hdr]
  clear hdr
  go_enter Try.func152, Try.ntmps152
  go_wp2_with (first
    | (go_at_call 38; refine (bytes_is H.out).mono ?_; rintro e w1 ⟨u, rfl, hr, hb⟩; obtain ⟨A1, k1, rfl, hk1, hC1⟩ := Kd.R_reads hr; have HC1 := Lib.hid hC1; have HB1 := Lib.hid (HE.out.trans (hb.mono HE.out.size)); have HK1 := Lib.hid (HK.out.below hb (by rw [HZ.out]; omega)); have H1 := Lib.hid (H.out.below hb (Nat.le_refl _)); clear hr hb hC1)
    | (go_at_call 22; refine (HO.out A1 k1 _ HC1.out hk1).mono ?_; rintro e w2 ⟨u, rfl, hr, hb⟩; obtain ⟨A2, k2, rfl, hk2, hC2⟩ := BR.len hr; have HC2 := Lib.hid hC2; have HR2 := Lib.hid hr; have HB2 := Lib.hid (HB1.out.trans (hb.mono HB1.out.size)); have hk2' := HK1.out.below hb HK1.out.lt; have HK2 := Lib.hid hk2'; have H2 := Lib.hid (H1.out.below hb (Nat.le_refl _)); have c0 := hk2'.c0; have c1 := hk2'.c1; have c2 := hk2'.c2; have f0 := hk2'.f 0; have f1 := hk2'.f 1; have f2 := hk2'.f 2; clear hr hb hC2 hk2'; obtain ⟨A3, hcut, hAc⟩ := HCU.out A2 k2 hk2; have HAC := Lib.hid hAc; clear hAc)
    | (go_at_call 39; refine (len_is H2.out).mono ?_; rintro e w' ⟨rfl, rfl⟩)
    | (go_at_call 91; refine (HG.out A2 k2 _ HC2.out hk2).mono ?_; rintro e w' ⟨rfl, rfl⟩))
  have HP := Lib.hid (HK2.out.put (.slice A3 dr.length (k2 - at_.toNat)) (.int .u64 g) (.bool true))
  have d0 := HP.out.c0
  have d1 := HP.out.c1
  have d2 := HP.out.c2
  refine bodyPost_ret (v := .agg #[.slice A3 dr.length (k2 - at_.toNat), .int .u64 g, .bool true]) (by simp [results, Try.results152, go_sem, d0, d1, d2]) rfl ?_
  exact ⟨A3, _, rfl, HAC.out _ (BR.C (BR.set (BR.set (BR.set HR2.out HK1.out.lt) HK1.out.lt) HK1.out.lt)), ((HB2.out.setCell (Nat.le_refl _) _).setCell (Nat.le_refl _) _).setCell (Nat.le_refl _) _⟩
end Go.Proofs.Ytmbnjgnmblgjoaa.Man
