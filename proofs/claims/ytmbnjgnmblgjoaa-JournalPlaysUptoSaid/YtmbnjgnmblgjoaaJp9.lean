/- JournalPlays (Upto): any acts (Append, Sync, Crash, Cut) on a journal over a disk that held any bytes tell, act by act, what the document's journal tells. Conditions: the statement's own, no others. -/
-- Laid together by a program of this session (wip/tools/shake.py). Not trusted: Lean checks it.
import Derived.Test.YtmbnjgnmblgjoaaJp8
section
namespace Go.Proofs.Ytmbnjgnmblgjoaa.journalPlaysUpto
open Go.ChangeShapes Go.WideShapes Go.ChangeAt Go.RowKit Go.Proofs.Ytmbnjgnmblgjoaa.Open
open Go.ChangeMaps (open_string shut_string)
set_option linter.unusedVariables false
theorem own : ownKnob Try.prog.godebug = none := by kernel_rfl
theorem laidOut : laidOutB Try.prog = true := by kernel_rfl
set_option maxRecDepth 100000 in
theorem lifted (os : Os) (started : os.Started) (H : Type) (enc : TypeId × Value → H) (F : Stop.Interp) :
 ReturnsInHanded {} Try.checked os 18 .any ((Rows.OpenSpec.upto Rows.journalPlaysSpec).pre6 enc Try.prog Try.f18 Rows.journalPlaysUptoRow.domain false) (((Rows.OpenSpec.upto Rows.journalPlaysSpec).at F).post enc Try.prog Try.f18 false true false false) := by
 refine returnsInHanded_of_cond_sized (C := Try.checked) (s := Rows.OpenSpec.upto Rows.journalPlaysSpec) (k := Rows.uptoSmall) rfl own started (by kernel_rfl) Try.func18
  (OpenSpec.witness (enc := enc) (C := Try.checked) (s := Rows.OpenSpec.upto Rows.journalPlaysSpec) (k := Rows.uptoSmall) rfl false ⟨#[], #[.slice none 0 0, .int .i64 0, .slice none 0 0, .slice none 0 0, .slice none 0 0], []⟩ 12 (by kernel_rfl) (by kernel_rfl) (by kernel_rfl)
   (x := ([.nil, .lit (.int .i64 0), .nil, .nil, .nil], [], [])) (by kernel_rfl) rfl (by kernel_rfl)) ?_
 intro W base args ds gs before hval0 hW hcnd hk0 hsz0 _
 have hsz : (DataW.weightsEach Try.prog (Try.f18.params.toList ++ Rows.journalPlaysSpec.plain.varTypes Try.prog) (ds ++ gs)).all (· ≤ reachBytes) = true := hsz0
 have hval : ∀ (j : Nat) t v, Try.f18.params[j]? = some t → args[j]? = some v → Value.okWide Try.prog W .any base t v := hval0
 have hW' := hW
 obtain ⟨p, q, hA0, hV, rfl, hfz, hnd⟩ := hW
 have hA : DataW.TrodAll enc Try.prog W 0 (fun _ => true) true Try.f18.params.toList args.toList ds p := hA0
 rw [Try.params18] at hA hval hsz
 obtain ⟨v0, vs0, d0, ds0, p0, q0, hargs, rfl, rfl, h0, r0⟩ := trodAll_cons hA
 obtain ⟨v1, vs1, d1, ds1, p1, q1, rfl, rfl, rfl, h1, r1⟩ := trodAll_cons r0
 obtain ⟨v2, vs2, d2, ds2, p2, q2, rfl, rfl, rfl, h2, r2⟩ := trodAll_cons r1
 obtain ⟨v3, vs3, d3, ds3, p3, q3, rfl, rfl, rfl, h3, r3⟩ := trodAll_cons r2
 obtain ⟨v4, vs4, d4, ds4, p4, q4, rfl, rfl, rfl, h4, r4⟩ := trodAll_cons r3
 obtain ⟨rfl, rfl, rfl⟩ := trodAll_nil r4
 obtain rfl : args = #[v0, v1, v2, v3, v4] := by cases args; simp_all
 obtain ⟨rfl, rfl⟩ := trodVars_none hV
 obtain ⟨a0, len0, cap0, rfl⟩ := okWide_slice Try.underlying27 (hval 0 27 v0 rfl rfl)
 obtain ⟨z0, rfl, c0, k0, w0, b0⟩ := Opens.slice_arg opens_bytes hsz (j := 0) (t := 27) rfl rfl h0
 have kt0 := h0
 have lt0 : ∀ x ∈ p0, x.block < W.heap.size := by obtain ⟨m, hm⟩ := kt0; exact DataW.trod_lt m _ _ _ hm
 try simp only [sum1_const] at b0
 obtain ⟨a1, rfl, rfl, rfl, w1⟩ := open_int Try.underlying3 (hval 1 3 v1 rfl rfl) h1
 obtain ⟨a2, len2, cap2, rfl⟩ := okWide_slice Try.underlying27 (hval 2 27 v2 rfl rfl)
 obtain ⟨z2, rfl, c2, k2, w2, b2⟩ := Opens.slice_arg opens_bytes hsz (j := 2) (t := 27) rfl rfl h2
 have kt2 := h2
 have lt2 : ∀ x ∈ p2, x.block < W.heap.size := by obtain ⟨m, hm⟩ := kt2; exact DataW.trod_lt m _ _ _ hm
 try simp only [sum1_const] at b2
 obtain ⟨a3, len3, cap3, rfl⟩ := okWide_slice Try.underlying116 (hval 3 116 v3 rfl rfl)
 obtain ⟨z3, rfl, c3, k3, w3, b3⟩ := Opens.slice_arg opens_entss hsz (j := 3) (t := 116) rfl rfl h3
 have kt3 := h3
 have lt3 : ∀ x ∈ p3, x.block < W.heap.size := by obtain ⟨m, hm⟩ := kt3; exact DataW.trod_lt m _ _ _ hm
 try simp only [sum1_const] at b3
 obtain ⟨a4, len4, cap4, rfl⟩ := okWide_slice Try.underlying42 (hval 4 42 v4 rfl rfl)
 obtain ⟨z4, rfl, c4, k4, w4, b4⟩ := Opens.slice_arg opens_ints hsz (j := 4) (t := 42) rfl rfl h4
 have kt4 := h4
 have lt4 : ∀ x ∈ p4, x.block < W.heap.size := by obtain ⟨m, hm⟩ := kt4; exact DataW.trod_lt m _ _ _ hm
 try simp only [sum1_const] at b4
 have hkk : Rows.uptoBulkAll _ ≤ 1048576 := of_decide_eq_true hk0
 simp only [List.append_nil, Rows.uptoBulkAll] at hkk
 clear hA0 hval0 hsz0 hsz
 refine (Man.jplays_row a0 cap0 z0 a1 a2 cap2 z2 a3 cap3 z3 a4 cap4 z4 W k0 c0 w0 w1 k2 c2 w2 k3 c3 w3 k4 c4 w4 (by first | omega | (simp only [] at *; omega))).mono fun e W' ⟨he, bel⟩ => ?_
 subst he
 exact ⟨_, rfl, _, _, _, [], _, [], hW', trodAll_mk1 (shut_bool Try.underlying4 _), (trodAll_cons_mk (Below.trod laidOut (by kernel_rfl) (of_decide_eq_true (by kernel_rfl)) kt0 bel lt0) (trodAll_cons_mk (shut_int Try.underlying3 w1) (trodAll_cons_mk (Below.trod laidOut (by kernel_rfl) (of_decide_eq_true (by kernel_rfl)) kt2 bel lt2) (trodAll_cons_mk (Below.trod laidOut (by kernel_rfl) (of_decide_eq_true (by kernel_rfl)) kt3 bel lt3) (trodAll_cons_mk (Below.trod laidOut (by kernel_rfl) (of_decide_eq_true (by kernel_rfl)) kt4 bel lt4) trodAll_mk0))))), rfl, bel.frame _, fun h => by cases h⟩
theorem proved : Rows.JournalPlaysUptoSaid :=
 OpenClaim.holds_of_cond 18 Try.f18 rfl rfl rfl rfl rfl rfl rfl ⟨rfl, rfl, rfl, rfl, rfl⟩ rfl rfl rfl rfl rfl (by kernel_rfl) Try.func18 (by kernel_rfl)
  (of_decide_eq_true (by kernel_rfl)) (by unfold Func.isWrapper; first | (rw [if_pos (by decide +kernel)]; kernel_rfl) | (rw [if_neg (by decide +kernel)]; exact ⟨rfl, rfl⟩))
  (fun os started H enc _ F => lifted os started H enc F)
#print axioms proved
end Go.Proofs.Ytmbnjgnmblgjoaa.journalPlaysUpto
namespace Go.Proofs.Ytmbnjgnmblgjoaa
theorem journalPlaysUpto_holds : Rows.JournalPlaysUptoSaid := journalPlaysUpto.proved
end Go.Proofs.Ytmbnjgnmblgjoaa
end
