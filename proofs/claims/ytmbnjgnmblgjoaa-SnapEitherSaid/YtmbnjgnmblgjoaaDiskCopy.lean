/- The given program's disk (layer 17): Copy. -/
import Derived.Test.YtmbnjgnmblgjoaaDiskActs
import Derived.Deep.RegionHeld3
namespace Go.Proofs.Ytmbnjgnmblgjoaa.Man
open Go.RowKit Go.Proofs.YtmbnjgnmblgjoaaW.PrintWords Go.Proofs.YtmbnjgnmblgjoaaW.PrintLast
set_option linter.unusedVariables false
set_option linter.unusedSimpArgs false
set_option maxRecDepth 100000

theorem copy_is {w : World} {base B : Nat} {v : Value} {xs : List Int} {s m : Int} (h : DiskS w base B v xs s m) : Calls Try.prog 37 #[.pointer (some ⟨B, 0, none⟩)] w fun e w' => ∃ B' v', e = .returned (.pointer (some ⟨B', 0, none⟩)) ∧ DiskS w' w.heap.size B' v' xs s m ∧ Below w.heap.size w w' := by
  have H := Lib.hid h
  have HB := Lib.hid (Below.refl w.heap.size w)
  have c1 := h.cells.c1
  have c2 := h.cells.c2
  clear h
  go_enter Try.func37, Try.ntmps37
  go_wp2_with (go_at_call 99; refine H.out.none.mono ?_; rintro e w' ⟨rfl, rfl⟩)
  have H1 : Hid (DiskS w.drew base B v xs s m) := Lib.hid (H.out.below (Below.refl _ _).drew (Nat.le_refl _))
  have HB1 : Hid (Below w.heap.size w w.drew) := Lib.hid (Below.refl _ _).drew
  go_region_held3 (fun w' => w'.cell? ⟨B, 1, none⟩ = some (.int .i64 s) ∧ w'.cell? ⟨B, 2, none⟩ = some (.int .i64 m))
    (first
      | exact ⟨c1, c2⟩
      | exact ⟨H2.out.cells.c1, H2.out.cells.c2⟩
      | exact ⟨(H2.out.below ((Below.refl _ _).alloc (Nat.le_refl _) _) (Nat.le_refl _)).cells.c1, (H2.out.below ((Below.refl _ _).alloc (Nat.le_refl _) _) (Nat.le_refl _)).cells.c2⟩)
    (first
      | (go_at_call 38; refine (bytes_is H1.out).mono ?_; rintro e w2 ⟨u, rfl, hr, hb⟩; obtain ⟨A1, k1, rfl, hk1, _⟩ := Kd.R_reads hr; have H2 : Hid (DiskS w2 base B v xs s m) := Lib.hid (H1.out.below hb (Nat.le_refl _)); have HR := Lib.hid hr; have HB2 := Lib.hid hb; clear hr hb))
  go_wp2
  go_ret
  have h := H.out
  have hb : Below w.heap.size w w2 := HB1.out.trans HB2.out
  have hr : DRow w2 w.heap.size (.slice A1 xs.length k1) xs := DRow.of_own (Kd.own_of_R HR.out)
  refine ⟨_, _, rfl, ⟨World.alloc_heap_new w2 _, hr.move fun k hk => Below.heap_alloc _ _ _ (hr.block hk).2.1, hb.size, h.m0, h.m1, h.len, h.s0, h.s1⟩, hb.alloc hb.size _⟩

end Go.Proofs.Ytmbnjgnmblgjoaa.Man
