/- What is written is bytes; one entry that lies in a row. -/
import Derived.Test.YtmbnjgnmblgjoaaEntries
namespace Go.Proofs.Ytmbnjgnmblgjoaa.Man
open Go.RowKit Go.Proofs.YtmbnjgnmblgjoaaW.PrintWords Go.Proofs.YtmbnjgnmblgjoaaW.PrintLast Go.Proofs.YtmbnjgnmblgjoaaW.PrintMore
set_option linter.unusedVariables false
set_option linter.unusedSimpArgs false
set_option maxRecDepth 100000

theorem bytes_app {a b : List Int} (ha : areBytesN a = true) (hb : areBytesN b = true) : areBytesN (a ++ b) = true := by
  unfold areBytesN at *
  rw [List.all_append, ha, hb]
  rfl
theorem bytes_flat {α : Type} (f : α → List Int) (h : ∀ x, areBytesN (f x) = true) : ∀ l : List α, areBytesN (l.flatMap f) = true
  | [] => rfl
  | x :: l => by rw [List.flatMap_cons]; exact bytes_app (h x) (bytes_flat f h l)
theorem tokB_bytes (x : K.S111) : areBytesN (tokB x) = true := by
  unfold tokB
  refine bytes_app (vb_bytes _) ?_
  split
  · exact vb_bytes _
  · split
    · exact vb_bytes _
    · rfl
theorem docB_bytes (l : List K.S111) : areBytesN (docB l) = true := bytes_app (vb_bytes _) (bytes_flat _ tokB_bytes l)
theorem entryB_bytes (x : K.S26) : areBytesN (entryB x) = true := by
  unfold entryB
  refine bytes_app (vbs_bytes _) ?_
  split
  · exact vbs_bytes _
  · split
    · exact bytes_app (vbs_bytes _) (docB_bytes _)
    · exact docB_bytes _
theorem msgB_bytes (m : MsgL) : areBytesN (msgB m) = true := bytes_app (vbs_bytes _) (bytes_flat _ entryB_bytes _)
/-- One entry in a row of its own. -/
theorem C_ent1 (w : World) (x : K.S26) (A : Option Addr) (c : Nat) (hc : x.f2.f6.length ≤ c) (h : Kd.C K.k111 w A x.f2.f6.length x.f2.f6) : Kd.C K.k26 (w.alloc (entO x A c)) (some ⟨w.heap.size, 0, none⟩) ([x] : List K.S26).length [x] := by
  refine ⟨rfl, by simp, fun _ => ⟨_, rfl, fun j p hj => ?_⟩⟩
  obtain ⟨rfl, rfl⟩ : j = 0 ∧ p = x := by
    match j, hj with
    | 0, hj => exact ⟨rfl, (Option.some.inj hj).symm⟩
    | j + 1, hj => simp at hj
  refine ⟨_, rfl, K.k26_mk _ _ hc (Kd.C_below h ((Below.refl _ _).alloc (Nat.le_refl _) _)), fun i u hi => ?_⟩
  rw [Addr.add_lit, cell_of_row _ w.heap.size _ _ _ (0, 0) (World.alloc_heap_new w _), ← Array.getElem?_toList]
  rw [Nat.zero_mul, Nat.zero_add, Nat.zero_add]
  exact hi
end Go.Proofs.Ytmbnjgnmblgjoaa.Man
