/- The statement SnapEither, stepped through: wherever a Save stops, the newest bytes are the old, or the new. -/
import Derived.Test.YtmbnjgnmblgjoaaSnapInv
namespace Go.Proofs.Ytmbnjgnmblgjoaa.Man
open Go.RowKit Go.Proofs.YtmbnjgnmblgjoaaW.PrintWords Go.Proofs.YtmbnjgnmblgjoaaW.PrintLast Go.Proofs.YtmbnjgnmblgjoaaW.PrintMore
set_option linter.unusedVariables false
set_option linter.unusedSimpArgs false
set_option maxRecDepth 100000

theorem loadN {w : World} {base S BX BY : Nat} {v u : Value} {X Y : List Int} {s s' m : Int} (h : SN w base S BX BY v u X Y s s' m) {i : Nat} {old : List Int} (I : Inv i old (heldF X) (heldF Y)) :
    Calls Try.prog 57 #[.pointer (some ⟨S, 0, none⟩)] w fun e w' => ∃ A c, e = .returned (.tuple #[.slice A old.length c, .bool (decide (0 < i))]) ∧ Kd.C (Kd.int .u8) w' A old.length old ∧ Below w.heap.size w w' :=
  load_is h.st _ _ (newestN h I)
theorem Inv.zero : Inv 0 [] (heldF []) (heldF []) := .inl ⟨rfl, rfl, held_nil, held_nil⟩

set_option maxHeartbeats 8000000 in
theorem awake30_is (w : World) : Calls Try.prog 56 #[] w fun e w' => e = .returned (.bool true) ∧ Below w.heap.size w w' := by
  have hC : ∀ W : World, Kd.C (Kd.int .u8) (W.alloc (.cells #[.int .u8 1] 5)) (some ⟨W.heap.size, 0, none⟩) ([1] : List Int).length [1] := fun W => C_box W .u8 1 _
  have HC := Lib.hid hC
  clear hC
  go_enter Try.func56, Try.ntmps56
  go_upto_region 2 with (go_at_call 26; refine (new_is _ _ w.heap.size (Nat.le_refl _) (by decide) (by decide)).mono ?_; rintro e w1 ⟨rfl, hd, hb⟩; have HD1 := Lib.hid hd; have HB1 := Lib.hid hb; clear hd hb)
  go_upto_region 4 with (first
    | (go_at_call 26; refine (new_is _ _ w.heap.size HB1.out.size (by decide) (by decide)).mono ?_; rintro e w2 ⟨rfl, hd, hb⟩; have HD2 := Lib.hid hd; have HDX := Lib.hid (HD1.out.below hb (Nat.le_refl _)); have HB2 := Lib.hid (HB1.out.trans (hb.mono HB1.out.size)); clear hd hb)
    | (go_at_call 54; refine (snapNew_is HDX.out HD2.out (by have := HD1.out.cells.lt; omega)).mono ?_; rintro e w3 ⟨S, rfl, hs, ⟨v, u, h1, h2, h3⟩, hb⟩; have hbe : Below w3.heap.size w3 (w3.alloc (.cells #[.int .u8 1] 5)) := (Below.refl _ _).alloc (Nat.le_refl _) _; have HB3 := Lib.hid (HB2.out.trans hb); have HN := Lib.hid ((SN.mk hs h1 h2 (by have := HD1.out.cells.lt; omega) h3 rfl rfl).below hbe (Nat.le_refl _)); have HBE := Lib.hid (HB3.out.trans (hbe.mono HB3.out.size)); clear hs h1 h2 h3 hb hbe))
  go_wp2_with (first
    | (go_at_call 55; refine (saveN (i := 0) (old := []) HN.out Inv.zero (by decide) (some ⟨w3.heap.size, 0, none⟩) 1 [1] (HC.out w3) (by decide) (by decide) (by decide) 3 0 (by decide) (by decide) (by decide)).mono ?_; rintro e w4 ⟨rfl, hb, v', u', X', Y', t, t', hsn, _, hI⟩; have HSN := Lib.hid hsn; have HI := Lib.hid (hI (by decide)).2.2; have HB4 := Lib.hid (HBE.out.trans hb); clear hb hsn hI)
    | (go_at_call 60; refine (generation_is HSN.out.st _ _ (newestN HSN.out HI.out)).mono ?_; rintro e w5 ⟨rfl, hb⟩; have HB5 := Lib.hid (HB4.out.trans (hb.mono HB4.out.size)); clear hb))
  go_ret
  exact ⟨rfl, HB5.out⟩

set_option maxHeartbeats 16000000 in
theorem either_walk (A1 : Option Addr) (c1 : Nat) (fs : List (List Int)) (A2 : Option Addr) (c2 : Nat) (b : List Int) (stop keep : Int) (w : World) (hr1 : Kd.C (Kd.slice 5 (Kd.int .u8)) w A1 fs.length fs) (hb1 : ∀ f ∈ fs, areBytesN f = true) (hr2 : Kd.C (Kd.int .u8) w A2 b.length b) (hb2 : areBytesN b = true)
    (hstop : 0 ≤ stop ∧ stop ≤ 255) (hkeep : 0 ≤ keep ∧ keep ≤ 255) :
    Calls Try.prog 9 #[.slice A1 fs.length c1, .slice A2 b.length c2, .int .u8 stop, .int .u8 keep] w fun e w' => e = .returned (.bool true) ∧ Below w.heap.size w w' := by
  have hl1 : fs.length ≤ 9223372036854775807 := hr1.2.1
  have hl2 : b.length ≤ 9223372036854775807 := hr2.2.1
  have hbg : ∀ i, areBytesN (fs.getD i []) = true := fun i => by
    rw [List.getD_eq_getElem?_getD]
    cases hx : fs[i]? with
    | none => rfl
    | some x => exact hb1 x (List.mem_of_getElem? hx)
  have H1 := Lib.hid hr1
  have H2 := Lib.hid hr2
  have HBG := Lib.hid hbg
  have HB2 := Lib.hid hb2
  obtain ⟨st, hst⟩ : ∃ st : Nat, stop % 5 = (st : Int) := ⟨(stop % 5).toNat, by omega⟩
  have hst5 : st < 5 := by omega
  have HST := Lib.hid hst
  obtain ⟨hkp0, hkp1⟩ := hkeep
  obtain ⟨hsp0, hsp1⟩ := hstop
  clear hr1 hr2 hb1 hb2 hbg hst
  go_enter Try.func9, Try.ntmps9
  go_upto_region 2 with (go_at_call 26; refine (new_is _ _ w.heap.size (Nat.le_refl _) (by decide) (by decide)).mono ?_; rintro e w1 ⟨rfl, hd, hb⟩; have HD1 := Lib.hid hd; have HX1 := Lib.hid hb; clear hd hb)
  go_wp2_with (first
    | (go_at_call 26; refine (new_is _ _ w.heap.size HX1.out.size (by decide) (by decide)).mono ?_; rintro e w2 ⟨rfl, hd, hb⟩; have HD2 := Lib.hid hd; have HDX := Lib.hid (HD1.out.below hb (Nat.le_refl _)); have HX2 := Lib.hid (HX1.out.trans (hb.mono HX1.out.size)); clear hd hb)
    | (go_at_call 54; refine (snapNew_is HDX.out HD2.out (by have := HD1.out.cells.lt; omega)).mono ?_; rintro e w3 ⟨S, rfl, hs, ⟨v, u, h1, h2, h3⟩, hb⟩; have HX3 := Lib.hid (HX2.out.trans hb); have HN3 := Lib.hid (SN.mk hs h1 h2 (by have := HD1.out.cells.lt; omega) h3 rfl rfl); clear hs h1 h2 h3 hb))
  go_loopg [15, 16, 17] 11 (fun g s15 s16 s17 wr => ∃ (i : Nat) (old : List Int) (Ao : Option Addr) (co : Nat), s17 = .int .i64 i ∧ i ≤ fs.length ∧ i ≤ 10 ∧ g = 11 - i ∧ s15 = .slice Ao old.length co ∧ ((i = 0 ∧ s16 = .bool false) ∨ (0 < i ∧ s16 = .bool true)) ∧ Hid (Kd.C (Kd.int .u8) w Ao old.length old) ∧
    Hid (∃ v u X Y, SN wr w.heap.size S w.heap.size w1.heap.size v u X Y (X.length : Int) (Y.length : Int) 5000 ∧ Inv i old (heldF X) (heldF Y)) ∧ Hid (Below w.heap.size w wr))
  case atStart => exact ⟨0, [], none, 0, rfl, by omega, by omega, rfl, rfl, .inl ⟨rfl, rfl⟩, Lib.hid (C_nil _ _), Lib.hid ⟨_, _, [], [], HN3.out, Inv.zero⟩, HX3⟩
  case round =>
    obtain ⟨i, old, Ao, co, rfl, hi1, hi2, hg, rfl, hhad, HO, HI, HW⟩ := hrel
    clear HN3 HX3 HD1 HD2 HDX HX2 HX1
    obtain ⟨v, u, X, Y, HS⟩ : ∃ v u X Y, Hid (SN wr w.heap.size S w.heap.size w1.heap.size v u X Y (X.length : Int) (Y.length : Int) 5000 ∧ Inv i old (heldF X) (heldF Y)) := by
      obtain ⟨v, u, X, Y, h⟩ := HI.out
      exact ⟨v, u, X, Y, Lib.hid h⟩
    clear HI
    by_cases hlt : i < fs.length ∧ i < 10
    · obtain ⟨q1, q2⟩ := hlt
      obtain ⟨ad, Ap, cp, e1, hcw, hcp, hrp⟩ := at_rows H1.out i q1
      subst e1
      have hfb := HBG.out i
      generalize fs.getD i [] = p at hcw hcp hrp hfb
      have HCW := Lib.hid hcw
      have HRP := Lib.hid hrp
      have HFB := Lib.hid hfb
      have hpl : p.length ≤ 9223372036854775807 := hrp.2.1
      have hcr := pw_cell_below HW.out hcw
      clear hcw hrp hfb
      by_cases hpb : 4000 < p.length
      · go_wp2_with (go_at_call 56; refine (awake30_is _).mono ?_; rintro e w4 ⟨rfl, hb⟩; have HW4 := Lib.hid (HW.out.trans (hb.mono HW.out.size)); clear hb)
        go_ret
        exact ⟨rfl, HW4.out⟩
      · go_wp2_with (first
          | (go_at_call 55; refine (saveN HS.out.1 HS.out.2 (by omega) Ap cp p (Kd.C_below HRP.out HW.out) HFB.out (by omega) (by omega) 3 0 (by decide) (by decide) (by decide)).mono ?_; rintro e w4 ⟨rfl, hb, v', u', X', Y', t, t', hsn, _, hI⟩; obtain ⟨ht1, ht2, hJ⟩ := hI (by decide); clear hI; subst ht1; subst ht2; have HS4 := Lib.hid (And.intro hsn hJ); have HW4 := Lib.hid (HW.out.trans hb); have hc4 := pw_cell_below HW4.out HCW.out; clear hb hsn hJ)
          | (go_at_call 57; refine (loadN HS4.out.1 HS4.out.2).mono ?_; rintro e w5 ⟨A5, k5, rfl, hc, hb⟩; have HS5 := Lib.hid (And.intro (HS4.out.1.below hb (Nat.le_refl _)) HS4.out.2); have HW5 := Lib.hid (HW4.out.trans (hb.mono HW4.out.size)); have t1 : (convert 27 9 (.slice A5 p.length k5)).run Try.prog w5 = .ok (.string (strOfNums p)) w5 := str_of hc; have t2 : (convert 27 9 (.slice Ap p.length cp)).run Try.prog w5 = .ok (.string (strOfNums p)) w5 := str_of (Kd.C_below HRP.out HW5.out); clear hb hc))
        go_roundg (11 - (i + 1))
        case measure => omega
        case rel => exact ⟨i + 1, p, Ap, cp, by go_num, by omega, by omega, rfl, rfl, .inr ⟨by omega, rfl⟩, HRP, Lib.hid ⟨_, _, _, _, HS5.out.1, HS5.out.2⟩, HW5⟩
    · have hex : ¬ i < fs.length ∨ (i < fs.length ∧ ¬ i < 10) := by omega
      clear hlt
      by_cases hbb : 4000 < b.length
      · rcases hex with p1 | ⟨p1, p2⟩
        all_goals
          go_wp2_with (go_at_call 56; refine (awake30_is _).mono ?_; rintro e w4 ⟨rfl, hb⟩; have HW4 := Lib.hid (HW.out.trans (hb.mono HW.out.size)); clear hb)
          go_ret
          exact ⟨rfl, HW4.out⟩
      · rcases hex with p1 | ⟨p1, p2⟩
        all_goals
          go_upto_region 20 with (go_at_call 55; rw [HST.out]; refine (saveN HS.out.1 HS.out.2 (by omega) A2 c2 b (Kd.C_below H2.out HW.out) HB2.out (by omega) (by omega) st keep (by omega) (by omega) (by omega)).mono ?_; rintro e w4 ⟨rfl, hb, v', u', X', Y', t, t', hsn, hI1, hI2⟩; have HS4 := Lib.hid hsn; have HI1 := Lib.hid hI1; have HI2 := Lib.hid hI2; have HW4 := Lib.hid (HW.out.trans hb); clear hb hsn hI1 hI2)
          have hst := HST.out
          have hcase : (st < 3 ∧ Hid (Inv i old (heldF X') (heldF Y'))) ∨ Hid (Inv (i + 1) b (heldF X') (heldF Y')) := by
            by_cases h3 : st < 3
            · rcases HI1.out h3 with h | h
              · exact .inl ⟨h3, Lib.hid h⟩
              · exact .inr (Lib.hid h)
            · exact .inr (Lib.hid (HI2.out (by omega)).2.2)
          clear HI1 HI2
          rcases hcase with ⟨h3, HJ⟩ | HJ
          · rcases hhad with ⟨rfl, rfl⟩ | ⟨hi0, rfl⟩
            all_goals
              go_wp2_with (first
                | (go_at_call 57; refine (loadN HS4.out HJ.out).mono ?_; rintro e w5 ⟨A5, k5, rfl, hc, hb⟩; have HW5 := Lib.hid (HW4.out.trans (hb.mono HW4.out.size)); have t1 : (convert 27 9 (.slice A5 old.length k5)).run Try.prog w5 = .ok (.string (strOfNums old)) w5 := str_of hc; have t2 : (convert 27 9 (.slice Ao old.length co)).run Try.prog w5 = .ok (.string (strOfNums old)) w5 := str_of (Kd.C_below HO.out HW5.out); have t3 : (convert 27 9 (.slice A2 b.length c2)).run Try.prog w5 = .ok (.string (strOfNums b)) w5 := str_of (Kd.C_below H2.out HW5.out); clear hb hc)
                | (go_at_call 56; refine (awake30_is _).mono ?_; rintro e w6 ⟨rfl, hb⟩; have HW6 := Lib.hid (HW5.out.trans (hb.mono HW5.out.size)); clear hb))
              all_goals (go_ret; exact ⟨rfl, HW6.out⟩)
          · rcases hhad with ⟨rfl, rfl⟩ | ⟨hi0, rfl⟩
            all_goals
              rcases (show st < 3 ∨ ¬ st < 3 by omega) with h3 | h3
              all_goals
                cases hq : ((strOfNums b).toList == (strOfNums old).toList)
                all_goals
                  go_wp2_with (first
                    | (go_at_call 57; refine (loadN HS4.out HJ.out).mono ?_; rintro e w5 ⟨A5, k5, rfl, hc, hb⟩; have HW5 := Lib.hid (HW4.out.trans (hb.mono HW4.out.size)); have t1 : (convert 27 9 (.slice A5 b.length k5)).run Try.prog w5 = .ok (.string (strOfNums b)) w5 := str_of hc; have t2 : (convert 27 9 (.slice Ao old.length co)).run Try.prog w5 = .ok (.string (strOfNums old)) w5 := str_of (Kd.C_below HO.out HW5.out); have t3 : (convert 27 9 (.slice A2 b.length c2)).run Try.prog w5 = .ok (.string (strOfNums b)) w5 := str_of (Kd.C_below H2.out HW5.out); clear hb hc)
                    | (go_at_call 56; refine (awake30_is _).mono ?_; rintro e w6 ⟨rfl, hb⟩; have HW6 := Lib.hid (HW5.out.trans (hb.mono HW5.out.size)); clear hb))
                  all_goals (go_ret; exact ⟨rfl, HW6.out⟩)

/-- The form that the row calls. -/
theorem either_row (A1 : Option Addr) (c1 : Nat) (fs : List (List Int)) (A2 : Option Addr) (c2 : Nat) (b : List Int) (stop keep : Int) (w : World) (hr1 : (Kd.slice 5 (Kd.int .u8)).C w A1 fs.length fs) (hc1 : fs.length ≤ c1) (w1 : fs.length * 24 ≤ 140737488351232 ∧ ∀ x ∈ fs, x.length * 1 ≤ 140737488351232 ∧ ∀ y ∈ x, (Lit.int .u8 y).wf = true)
    (hr2 : (Kd.int .u8).C w A2 b.length b) (hc2 : b.length ≤ c2) (w2 : b.length * 1 ≤ 140737488351232 ∧ ∀ x ∈ b, (Lit.int .u8 x).wf = true) (w3 : (Lit.int .u8 stop).wf = true) (w4 : (Lit.int .u8 keep).wf = true) :
    Calls Try.prog 9 #[.slice A1 fs.length c1, .slice A2 b.length c2, .int .u8 stop, .int .u8 keep] w fun e w' => e = .returned (.bool true) ∧ Below w.heap.size w w' := by
  have hb : ∀ l : List Int, (∀ x ∈ l, (Lit.int .u8 x).wf = true) → areBytesN l = true := fun l h => by
    unfold areBytesN
    rw [List.all_eq_true]
    intro x hx
    have := h x hx
    simp [Lit.wf, IntKind.min, IntKind.max, IntKind.bits, IntKind.signed] at this
    simpa using this
  have h3 : 0 ≤ stop ∧ stop ≤ 255 := by simp [Lit.wf, IntKind.min, IntKind.max, IntKind.bits, IntKind.signed] at w3; omega
  have h4 : 0 ≤ keep ∧ keep ≤ 255 := by simp [Lit.wf, IntKind.min, IntKind.max, IntKind.bits, IntKind.signed] at w4; omega
  exact either_walk A1 c1 fs A2 c2 b stop keep w hr1 (fun f hf => hb f (w1.2 f hf).2) hr2 (hb b w2.2) h3 h4
end Go.Proofs.Ytmbnjgnmblgjoaa.Man
