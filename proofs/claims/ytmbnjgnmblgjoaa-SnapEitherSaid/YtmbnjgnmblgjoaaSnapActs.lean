/- A store's small calls (layer 30): Load, Generation, New; a save's steps. -/
import Derived.Test.YtmbnjgnmblgjoaaNewest
namespace Go.Proofs.Ytmbnjgnmblgjoaa.Man
open Go.RowKit Go.Proofs.YtmbnjgnmblgjoaaW.PrintWords Go.Proofs.YtmbnjgnmblgjoaaW.PrintLast Go.Proofs.YtmbnjgnmblgjoaaW.PrintMore
set_option linter.unusedVariables false
set_option linter.unusedSimpArgs false
set_option maxRecDepth 100000

/-- What newest comes to. -/
def NewPost (w : World) (h : Held) (o : Int) (e : Ending) (w' : World) : Prop := ∃ A c, e = .returned (.tuple #[hval A c h, .int .i64 o]) ∧ Kd.C (Kd.int .u8) w' A h.1.length h.1 ∧ Below w.heap.size w w'

theorem load_is {w : World} {S BX BY : Nat} (hS : StoreS w S BX BY) (h : Held) (o : Int) (hn : Calls Try.prog 114 #[.pointer (some ⟨S, 0, none⟩)] w (NewPost w h o)) :
    Calls Try.prog 57 #[.pointer (some ⟨S, 0, none⟩)] w fun e w' => ∃ A c, e = .returned (.tuple #[.slice A h.1.length c, .bool h.2.2]) ∧ Kd.C (Kd.int .u8) w' A h.1.length h.1 ∧ Below w.heap.size w w' := by
  have HS := Lib.hid hS
  have HN := Lib.hid hn
  clear hS hn
  obtain ⟨b, g, i⟩ := h
  simp only at HN ⊢
  go_enter Try.func57, Try.ntmps57
  go_wp2_with (first
    | (go_at_call 113; refine (snone_is HS.out).mono ?_; rintro e w' ⟨rfl, rfl⟩)
    | (go_at_call 114; refine HN.out.mono ?_; rintro e w1 ⟨A, c, rfl, hc, hb⟩; unfold hval; have hbe : Below w1.heap.size w1 (w1.alloc (.cells #[.slice A b.length c, .int .u64 g, .bool i] 165)) := (Below.refl _ _).alloc (Nat.le_refl _) _; have HC := Lib.hid (Kd.C_below hc hbe); have HB := Lib.hid (hb.trans (hbe.mono hb.size)); clear hc hb hbe))
  go_quiet (fail)
  go_wp2
  go_ret2
  first | exact ⟨A, c, rfl, Kd.C_below HC.out (pw_below_drewN (Below.refl _ _) _), pw_below_drewN HB.out _⟩ | exact ⟨A, ⟨c, rfl⟩, Kd.C_below HC.out (pw_below_drewN (Below.refl _ _) _), pw_below_drewN HB.out _⟩

theorem generation_is {w : World} {S BX BY : Nat} (hS : StoreS w S BX BY) (h : Held) (o : Int) (hn : Calls Try.prog 114 #[.pointer (some ⟨S, 0, none⟩)] w (NewPost w h o)) :
    Calls Try.prog 60 #[.pointer (some ⟨S, 0, none⟩)] w fun e w' => e = .returned (.int .u64 h.2.1) ∧ Below w.heap.size w w' := by
  have HS := Lib.hid hS
  have HN := Lib.hid hn
  clear hS hn
  obtain ⟨b, g, i⟩ := h
  simp only at HN ⊢
  go_enter Try.func60, Try.ntmps60
  go_wp2_with (first
    | (go_at_call 113; refine (snone_is HS.out).mono ?_; rintro e w' ⟨rfl, rfl⟩)
    | (go_at_call 114; refine HN.out.mono ?_; rintro e w1 ⟨A, c, rfl, hc, hb⟩; unfold hval; have hbe : Below w1.heap.size w1 (w1.alloc (.cells #[.slice A b.length c, .int .u64 g, .bool i] 165)) := (Below.refl _ _).alloc (Nat.le_refl _) _; have HB := Lib.hid (hb.trans (hbe.mono hb.size)); clear hc hb hbe))
  go_ret
  exact ⟨rfl, HB.out⟩

/-! ### A save's steps -/
theorem DStep.trans {w w1 w2 : World} {B : Nat} {v v1 v2 : Value} (h : DStep w w1 B v v1) (k : DStep w1 w2 B v1 v2) : DStep w w2 B v v2 := by
  refine ⟨k.os.trans h.os, k.tape.trans h.tape, k.output.trans h.output, Nat.le_trans h.size k.size, fun j hj hB hv => (k.block j (by have := h.size; omega) hB ?_).trans (h.block j hj hB hv), ?_⟩
  · rcases h.row with e | ⟨b, e, hb⟩
    · rw [e]; exact hv
    · rw [e]; intro q; cases q; omega
  · rcases k.row with e | ⟨b, e, hb⟩
    · rw [e]; exact h.row
    · exact .inr ⟨b, e, by have := h.size; omega⟩
theorem DStep.of_below {w w1 : World} (B : Nat) (v : Value) (h : Below w.heap.size w w1) : DStep w w1 B v v := ⟨h.os, h.tape, h.output, h.size, fun k hk _ _ => h.block k hk, .inl rfl⟩
abbrev SaveV (B : Nat) (A : Option Addr) (n c : Nat) : Value := .agg #[.pointer (some ⟨B, 0, none⟩), .slice A n c]
theorem scut_is {w : World} {base B : Nat} {v : Value} {xs : List Int} {s m : Int} (h : DiskS w base B v xs s m) (A : Option Addr) (n c : Nat) :
    Calls Try.prog 116 #[SaveV B A n c] w fun e w' => e = .returned (.tuple #[]) ∧ ∃ v', DiskS w' base B v' [] 0 m ∧ DStep w w' B v v' := by
  have hbe : Below w.heap.size w (w.alloc (.cells #[.pointer (some ⟨B, 0, none⟩), .slice A n c] 169)) := (Below.refl _ _).alloc (Nat.le_refl _) _
  have H := Lib.hid (h.below hbe (Nat.le_refl _))
  have HD := Lib.hid (DStep.of_below B v hbe)
  clear h hbe
  unfold SaveV
  go_enter Try.func116, Try.ntmps116
  go_wp2_with (go_at_call 35; refine (cut_is H.out 0 (Nat.zero_le _)).mono ?_; rintro e w1 ⟨rfl, v1, hd, hs⟩; rw [List.take_zero] at hd; have HD1 := Lib.hid hd; have HS1 := Lib.hid (HD.out.trans hs); clear hd hs)
  go_end0
  exact ⟨rfl, v1, HD1.out, HS1.out⟩
theorem swrite_is {w : World} {base B : Nat} {v : Value} {s m : Int} (h : DiskS w base B v [] s m) (A : Option Addr) (c : Nat) (f : List Int) (hf : Kd.C (Kd.int .u8) w A f.length f) (hm : (f.length : Int) ≤ m) :
    Calls Try.prog 117 #[SaveV B A f.length c] w fun e w' => e = .returned (.tuple #[]) ∧ ∃ v', DiskS w' base B v' f s m ∧ DStep w w' B v v' := by
  have hbe : Below w.heap.size w (w.alloc (.cells #[.pointer (some ⟨B, 0, none⟩), .slice A f.length c] 169)) := (Below.refl _ _).alloc (Nat.le_refl _) _
  have H := Lib.hid (h.below hbe (Nat.le_refl _))
  have HF := Lib.hid (Kd.C_below hf hbe)
  have HD := Lib.hid (DStep.of_below B v hbe)
  clear h hbe hf
  unfold SaveV
  go_enter Try.func117, Try.ntmps117
  go_wp2_with (go_at_call 29; refine (append_is H.out A c HF.out (by simp only [List.length_nil]; omega)).mono ?_; rintro e w1 ⟨rfl, v1, hd, hs⟩; rw [List.nil_append] at hd; have HD1 := Lib.hid hd; have HS1 := Lib.hid (HD.out.trans hs); clear hd hs)
  go_end0
  exact ⟨rfl, v1, HD1.out, HS1.out⟩
theorem ssync_is {w : World} {base B : Nat} {v : Value} {xs : List Int} {s m : Int} (h : DiskS w base B v xs s m) (A : Option Addr) (n c : Nat) :
    Calls Try.prog 118 #[SaveV B A n c] w fun e w' => e = .returned (.tuple #[]) ∧ ∃ v', DiskS w' base B v' xs (xs.length : Int) m ∧ DStep w w' B v v' := by
  have hbe : Below w.heap.size w (w.alloc (.cells #[.pointer (some ⟨B, 0, none⟩), .slice A n c] 169)) := (Below.refl _ _).alloc (Nat.le_refl _) _
  have H := Lib.hid (h.below hbe (Nat.le_refl _))
  have HD := Lib.hid (DStep.of_below B v hbe)
  clear h hbe
  unfold SaveV
  go_enter Try.func118, Try.ntmps118
  go_wp2_with (go_at_call 32; refine (sync_is H.out).mono ?_; rintro e w1 ⟨rfl, hd, hs⟩; have HD1 := Lib.hid hd; have HS1 := Lib.hid (HD.out.trans hs); clear hd hs)
  go_end0
  exact ⟨rfl, v, HD1.out, HS1.out⟩
theorem sroom_is {w : World} {base B : Nat} {v : Value} {xs : List Int} {s m : Int} (h : DiskS w base B v xs s m) (A : Option Addr) (c : Nat) (f : List Int) (hf : Kd.C (Kd.int .u8) w A f.length f) (hm : (f.length : Int) ≤ m) :
    Calls Try.prog 115 #[SaveV B A f.length c] w fun e w' => e = .returned (.bool true) ∧ Below w.heap.size w w' := by
  have hbe : Below w.heap.size w (w.alloc (.cells #[.pointer (some ⟨B, 0, none⟩), .slice A f.length c] 169)) := (Below.refl _ _).alloc (Nat.le_refl _) _
  obtain ⟨w0, hw0⟩ : ∃ w0, w0 = w.alloc (.cells #[.pointer (some ⟨B, 0, none⟩), .slice A f.length c] 169) := ⟨_, rfl⟩
  have hz : w0.heap.size = w.heap.size + 1 := by rw [hw0]; exact World.size_alloc _ _
  have hk : w0.heap[w.heap.size]? = some (.cells #[.pointer (some ⟨B, 0, none⟩), .slice A f.length c] 169 (0, 0)) := by rw [hw0]; exact World.alloc_heap_new w _
  rw [← hw0] at hbe
  have H := Lib.hid (h.below hbe (Nat.le_refl _))
  have HF := Lib.hid (Kd.C_below hf hbe)
  have HB := Lib.hid hbe
  have HK := Lib.hid hk
  have HZ := Lib.hid hz
  have HW := Lib.hid hw0
  have hcell : ∀ W, Below w0.heap.size w0 W → W.cell? ⟨w.heap.size, 1, none⟩ = some (.slice A f.length c) := fun W hW => by
    have := (hW.block w.heap.size (by omega)).trans hk
    simp [World.cell?, this]
  have HCE := Lib.hid hcell
  clear h hbe hf hk hz hcell hw0
  unfold SaveV
  go_enter Try.func115, Try.ntmps115
  go_wp2_with (first
    | (go_at_call 37; rw [← HW.out]; refine (copy_is H.out).mono ?_; rintro e w1 ⟨B1, v1, rfl, hd, hb⟩; have HD1 := Lib.hid hd; have HB1 := Lib.hid hb; clear hd hb)
    | (go_at_call 35; refine (cut_is HD1.out 0 (Nat.zero_le _)).mono ?_; rintro e w2 ⟨rfl, v2, hd, hs⟩; rw [List.take_zero] at hd; have HD2 := Lib.hid hd; have hb2 := HB1.out.trans (hs.below HD1.out); have HB2 := Lib.hid hb2; have hc1 := HCE.out _ hb2; clear hd hs hb2)
    | (go_at_call 29; refine (append_is HD2.out A c (Kd.C_below HF.out HB2.out) (by simp only [List.length_nil]; omega)).mono ?_; rintro e w3 ⟨rfl, v3, hd, hs⟩; have HB3 := Lib.hid (HB2.out.trans (hs.below HD2.out)); clear hd hs))
  go_ret
  exact ⟨rfl, HB.out.trans (HB3.out.mono HB.out.size)⟩
end Go.Proofs.Ytmbnjgnmblgjoaa.Man
