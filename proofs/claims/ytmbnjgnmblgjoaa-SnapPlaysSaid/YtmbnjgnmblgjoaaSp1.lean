/- SnapPlays: any Saves, stopped anywhere, of a store on two disks that held any bytes, tell, Save by Save, what the document's store tells. Conditions: the statement's own, no others. -/
-- Laid together by a program of this session (wip/tools/shake.py). Not trusted: Lean checks it.
import Derived.Test.YtmbnjgnmblgjoaaSp0
section
namespace Go.Proofs.Ytmbnjgnmblgjoaa.Man
open Go.RowKit Go.Proofs.YtmbnjgnmblgjoaaW.PrintWords Go.Proofs.YtmbnjgnmblgjoaaW.PrintLast
set_option linter.unusedVariables false
set_option linter.unusedSimpArgs false
set_option maxRecDepth 100000
def DRow (w : World) (base : Nat) (v : Value) (xs : List Int) : Prop :=
 (v = .slice none 0 0 ∧ xs = []) ∨ ∃ g cap cur, v = .slice (some ⟨g, 0, none⟩) xs.length cap ∧ base ≤ g ∧ w.heap[g]? = some (.cells cur 5 (0, 0)) ∧ xs.length ≤ cap ∧ cap ≤ cur.size ∧ cap ≤ maxLen ∧ cur.toList.take xs.length = encs (Value.int .u8) xs
theorem DRow.nil (w : World) (base : Nat) : DRow w base (.slice none 0 0) [] := .inl ⟨rfl, rfl⟩
theorem DRow.of_own {w : World} {base : Nat} {v : Value} {xs : List Int} (h : w.ownsRow base 5 1 v xs.length (encs (Value.int .u8) xs)) : DRow w base v xs := by
 rcases h.2 with ⟨rfl, h0⟩ | ⟨g, cap, cur, rfl, h1, h2, h3, h4, h5, h6⟩
 · exact .inl ⟨rfl, List.eq_nil_of_length_eq_zero h0⟩
 · exact .inr ⟨g, cap, cur, rfl, h1, h2, h3, by omega, h4, by rw [Nat.mul_one] at h6; exact h6⟩
theorem DRow.move {w w1 : World} {base : Nat} {v : Value} {xs : List Int} (h : DRow w base v xs) (hm : ∀ k, v.ownBlock = some k → w1.heap[k]? = w.heap[k]?) : DRow w1 base v xs := by
 rcases h with h | ⟨g, cap, cur, rfl, h1, h2, h3⟩
 · exact .inl h
 · exact .inr ⟨g, cap, cur, rfl, h1, (hm g rfl).trans h2, h3⟩
theorem DRow.lower {w : World} {base base' : Nat} {v : Value} {xs : List Int} (h : DRow w base v xs) (hb : base' ≤ base) : DRow w base' v xs := by
 rcases h with h | ⟨g, cap, cur, rfl, h1, h2⟩
 · exact .inl h
 · exact .inr ⟨g, cap, cur, rfl, by omega, h2⟩
theorem DRow.block {w : World} {base : Nat} {v : Value} {xs : List Int} (h : DRow w base v xs) {k : Nat} (hk : v.ownBlock = some k) : base ≤ k ∧ k < w.heap.size ∧ ∃ cur, w.heap[k]? = some (.cells cur 5 (0, 0)) := by
 rcases h with ⟨rfl, _⟩ | ⟨g, cap, cur, rfl, h1, h2, _⟩
 · cases hk
 · obtain rfl : g = k := by simpa [Value.ownBlock] using hk
   exact ⟨h1, (Array.getElem?_eq_some_iff.1 h2).1, cur, h2⟩
theorem DRow.len {w : World} {base : Nat} {v : Value} {xs : List Int} (h : DRow w base v xs) : ∃ A c, v = .slice A xs.length c ∧ xs.length ≤ c := by
 rcases h with ⟨rfl, rfl⟩ | ⟨g, cap, cur, rfl, h1, h2, h3, _⟩
 · exact ⟨none, 0, rfl, Nat.le_refl _⟩
 · exact ⟨_, cap, rfl, h3⟩
theorem DRow.cell {w : World} {base g n cap : Nat} {xs : List Int} (h : DRow w base (.slice (some ⟨g, 0, none⟩) n cap) xs) {j : Nat} {u : Value} (hj : (encs (Value.int .u8) xs)[j]? = some u) : w.cell? ((⟨g, 0, none⟩ : Addr).add j) = some u := by
 rcases h with ⟨h, _⟩ | ⟨g', cap', cur, e, h1, h2, h3, h4, h5, h6⟩
 · cases h
 · cases e
   rw [← h6] at hj
   have hlt : j < xs.length := by
    rcases Nat.lt_or_ge j xs.length with h | h
    · exact h
    · rw [List.getElem?_eq_none (by rw [List.length_take]; omega)] at hj; cases hj
   rw [List.getElem?_take, if_pos hlt] at hj
   rw [Addr.add_lit, Nat.zero_add, cell_of_row w g _ cur _ (0, 0) h2]
   simpa using hj
theorem DRow.C {w : World} {base : Nat} {A : Option Addr} {n c : Nat} {xs : List Int} (h : DRow w base (.slice A n c) xs) : n = xs.length ∧ Kd.C (Kd.int .u8) w A n xs := by
 have h0 := h
 rcases h with ⟨h, rfl⟩ | ⟨g', cap', cur, e, h1, h2, h3, h4, h5, h6⟩
 · cases h
   exact ⟨rfl, Kd.C_of_reads (d := (0 : Int)) (h1 := fun _ => rfl) ⟨rfl, by omega, fun h => absurd h (by decide)⟩⟩
 · cases e
   refine ⟨rfl, Kd.C_of_reads (d := (0 : Int)) (h1 := fun _ => rfl) ⟨rfl, by simp only [maxLen] at h5; omega, fun _ => ⟨_, rfl, fun j hj => ?_⟩⟩⟩
   exact h0.cell (by rw [encs_get (d := (0 : Int)) xs j hj])
set_option maxRecDepth 100000 in
theorem DRow.append {w : World} {base : Nat} {v : Value} {xs ys : List Int} (h : DRow w base v xs) (ty : TypeId) {A : Option Addr} {m c : Nat} (HR : Kd.C (Kd.int .u8) w A m ys) (hbase : base ≤ w.heap.size) (hl : xs.length + m ≤ 140737488355328) :
 ∃ v1 w1, (Builtin.append_ #[27, 27] ty #[v, .slice A m c]).run Try.prog w = .ok v1 w1 ∧ DRow w1 base v1 (xs ++ ys) ∧ w.grownBy w1 v.ownBlock ∧ (v1.ownBlock = v.ownBlock ∨ ∃ b, v1.ownBlock = some b ∧ w.heap.size ≤ b) := by
 have hR := Kd.reads_of_C (enc := Value.int .u8) (d := (0 : Int)) (h1 := fun _ => rfl) HR
 have hm : ys.length = m := hR.1
 have ht : Try.prog.underlying 27 = some (.slice 5) := by kernel_rfl
 have hinfo : (Try.prog.info? 5).map (fun i => (i.zero, i.size, i.bytes)) = some (some (.int .u8 0), 1, 1) := by kernel_rfl
 obtain ⟨i0, hi, hzz⟩ := Option.map_eq_some_iff.1 hinfo
 simp only [Prod.mk.injEq] at hzz
 obtain ⟨hz0, hz1, hz2⟩ := hzz
 rcases A with _ | ad
 · have h0 : m = 0 := by
    rcases Nat.eq_zero_or_pos m with h0 | h0
    · exact h0
    · obtain ⟨ad, h, _⟩ := hR.2.2 h0
      cases h
   subst h0
   obtain rfl : ys = [] := List.eq_nil_of_length_eq_zero hm
   refine ⟨v, w, ?_, by simpa using h, World.grownBy.refl w _, .inl rfl⟩
   rcases h with ⟨rfl, hn⟩ | ⟨g, cap, cur, rfl, _, _, hnc, _⟩
   · simp [Builtin.append_, run_underlying ht, sizeOf, typeInfo, hi, Builtin.lenOf, Builtin.firstCells]
   · simp [Builtin.append_, run_underlying ht, sizeOf, typeInfo, hi, Builtin.lenOf, Builtin.firstCells, hnc, storeCells]
 · have hcells : ∀ j u, (encs (Value.int .u8) ys)[j]? = some u → w.cell? (ad.add j) = some u := by
    intro j u hu
    have hj : j < ys.length := by
     rcases Nat.lt_or_ge j ys.length with h | h
     · exact h
     · simp [encs, List.getElem?_eq_none h] at hu
    obtain ⟨ad', h', hc⟩ := hR.2.2 (by omega)
    injection h' with h'
    subst h'
    rw [encs_get (d := (0 : Int)) ys j hj] at hu
    rw [← hu]
    exact hc j (by omega)
   have hone : ∀ u ∈ encs (Value.int .u8) ys, u.oneCell' = true := by
    intro u hu; simp only [encs, List.mem_map] at hu; obtain ⟨q, _, rfl⟩ := hu; rfl
   have hnl : (encs (Value.int .u8) ys).length = m * i0.size := by rw [hz1]; simp [encs, hm]
   rcases h with ⟨rfl, rfl⟩ | ⟨g, cap, cur, rfl, h1, h2, h3, h4, h5, h6⟩
   · obtain ⟨v1, w1, hr, q2, q3, _, q5⟩ := run_append_own_at (P := Try.prog) w base 27 ty 5 i0 (.int .u8 0) 1 1 ht hi hz0 hz1 hz2 rfl (by omega) (.slice none 0 0) 0 [] (World.ownsRow_nil w base _ 1) ad m c (encs (Value.int .u8) ys) (by simp [encs, hm]) hcells hone (by simp only [maxLen]; omega) (by simp at hl; omega) hbase
     exact ⟨v1, w1, hr, DRow.of_own (by simpa [encs, hm] using q2), q3, q5.imp id fun e => ⟨_, e, Nat.le_refl _⟩⟩
   · have hold : (⟨g, 0, none⟩ : Addr) = ⟨g, 0, none⟩ := rfl
     by_cases hroom : xs.length + m ≤ cap
     · have hr := run_append_room (P := Try.prog) w 27 ty 5 i0 ht hi g xs.length cap cur h2 ad m c (encs (Value.int .u8) ys) hnl hcells hone hroom (by rw [hz1]; simp [encs, hm]; omega)
       rw [hz1, Nat.mul_one] at hr
       refine ⟨_, _, hr, .inr ⟨g, cap, _, by rw [List.length_append, hm], h1, setRow_heap w g cur _ _ _ h2, by rw [List.length_append, hm]; exact hroom, ?_, h5, ?_⟩, ⟨rfl, rfl, rfl, by simp, fun k _ hk => setRow_other w g k _ (fun e => hk (by simp [Value.ownBlock, e]))⟩, .inl rfl⟩
       · simp only [List.size_toArray, List.length_append, List.length_take, List.length_drop, Array.length_toList]
         omega
       · rw [h6]
         have hlen : (encs (Value.int .u8) xs ++ encs (Value.int .u8) ys).length = (xs ++ ys).length := by simp [encs]
         simp only [encs, List.map_append] at hlen ⊢
         rw [← hlen]
         exact List.take_left
     · have hd : DRow w base (.slice (some ⟨g, 0, none⟩) xs.length cap) xs := .inr ⟨g, cap, cur, rfl, h1, h2, h3, h4, h5, h6⟩
       obtain ⟨v1, w1, hr, q2, q3⟩ := run_append_arg_grows (P := Try.prog) w 27 ty 5 i0 (.int .u8 0) 1 1 ht hi hz0 hz1 hz2 rfl (by omega) ⟨g, 0, none⟩ xs.length cap (encs (Value.int .u8) xs) (by simp [encs]) (fun j u hu => hd.cell hu) ad m c (encs (Value.int .u8) ys) (by simp [encs, hm]) hcells (by omega) (by simp only [maxLen]; omega) (by omega)
       have q4 : DRow w1 w.heap.size v1 (xs ++ ys) := DRow.of_own (by simpa [encs, hm] using q2)
       refine ⟨v1, w1, hr, q4.lower hbase, ⟨q3.os, q3.tape, q3.output, q3.size, fun k hk _ => q3.block k hk (by simp)⟩, ?_⟩
       rcases q4 with ⟨rfl, q⟩ | ⟨b, cap', cur', rfl, q, _⟩
       · have := congrArg List.length q
         rw [List.length_append, hm] at this
         simp at this
         omega
       · exact .inr ⟨b, rfl, q⟩
theorem DRow.append_ev {ops : Array Oper} {rest : List Oper} {o : Oper} {a : Act} {Q : Exit → Act → World → Prop} {w : World} {base : Nat} {v : Value} {xs ys : List Int} {A : Option Addr} {m c : Nat}
 (h : DRow w base v xs) (HR : Kd.C (Kd.int .u8) w A m ys) (hgd : o.guard = none) (s x : Operand) (ho : o.op = .call { callee := .builtin .append, args := #[s, x], argTypes := #[27, 27] })
 (hs : a.eval s = v) (hx : a.eval x = .slice A m c) (hbase : base ≤ w.heap.size) (hl : xs.length + m ≤ 140737488355328)
 (k : ∀ v1 w1, DRow w1 base v1 (xs ++ ys) → w.grownBy w1 v.ownBlock → (v1.ownBlock = v.ownBlock ∨ ∃ b, v1.ownBlock = some b ∧ w.heap.size ≤ b) → wpList Try.prog ops Q rest (a.put o.dst v1) w1) : wpList Try.prog ops Q (o :: rest) a w := by
 obtain ⟨v1, w1, hr, q1, q2, q3⟩ := h.append o.type (c := c) HR hbase hl
 refine wpList_plain hgd fun K hK => ?_
 unfold Oper.wp execOp
 simp only [ho, resolve, invoke, builtin, Sem.run_bind, Sem.run_pure, Result.andThen_ok, List.map_toArray, List.map_cons, List.map_nil, hs, hx, hr]
 exact hK _ _ (k v1 w1 q1 q2 q3)
theorem DiskAt.lt {w : World} {B : Nat} {v : Value} {s m : Int} {made : Bool} (h : DiskAt w B v s m made) : B < w.heap.size := (Array.getElem?_eq_some_iff.1 h).1
theorem DiskAt.f {w : World} {B : Nat} {v : Value} {s m : Int} {made : Bool} (h : DiskAt w B v s m made) (k : Nat) : w.frozen? ⟨B, k, none⟩ = false := by simp [World.frozen?, show w.heap[B]? = _ from h]
theorem DiskAt.put0 {w : World} {B : Nat} {v : Value} {s m : Int} {made : Bool} (h : DiskAt w B v s m made) (v' : Value) : DiskAt (w.setCell ⟨B, 0, none⟩ v') B v' s m made := by
 unfold DiskAt World.setCell
 simp [Array.getElem?_modify, show w.heap[B]? = _ from h]
theorem DiskAt.put1 {w : World} {B : Nat} {v : Value} {s m : Int} {made : Bool} (h : DiskAt w B v s m made) (s' : Int) : DiskAt (w.setCell ⟨B, 1, none⟩ (.int .i64 s')) B v s' m made := by
 unfold DiskAt World.setCell
 simp [Array.getElem?_modify, show w.heap[B]? = _ from h]
theorem DiskAt.move {w w1 : World} {B : Nat} {v : Value} {s m : Int} {made : Bool} (h : DiskAt w B v s m made) (hm : w1.heap[B]? = w.heap[B]?) : DiskAt w1 B v s m made := hm.trans h
theorem DiskAt.apart {w : World} {B base : Nat} {v u : Value} {s m : Int} {made : Bool} {xs : List Int} (h : DiskAt w B v s m made) (hr : DRow w base u xs) : some B ≠ u.ownBlock := by
 intro e
 obtain ⟨_, _, cur, hc⟩ := hr.block e.symm
 rw [show w.heap[B]? = _ from h] at hc
 cases hc
structure DiskS (w : World) (base B : Nat) (v : Value) (xs : List Int) (s m : Int) : Prop where
 cells : DiskAt w B v s m true
 row : DRow w base v xs
 at_ : base ≤ B
 m0 : 0 ≤ m
 m1 : m ≤ 262144
 len : (xs.length : Int) ≤ m
 s0 : 0 ≤ s
 s1 : s ≤ (xs.length : Int)
structure DStep (w w' : World) (B : Nat) (v v' : Value) : Prop where
 os : w'.os = w.os
 tape : w'.tape = w.tape
 output : w'.output = w.output
 size : w.heap.size ≤ w'.heap.size
 block : ∀ k, k < w.heap.size → k ≠ B → some k ≠ v.ownBlock → w'.heap[k]? = w.heap[k]?
 row : v'.ownBlock = v.ownBlock ∨ ∃ b, v'.ownBlock = some b ∧ w.heap.size ≤ b
theorem DStep.below {w w' : World} {base B : Nat} {v v' : Value} {xs : List Int} {s m : Int} (h : DStep w w' B v v') (hd : DiskS w base B v xs s m) : Below base w w' :=
 ⟨h.os, h.tape, h.output, h.size, fun k hk => h.block k (by have := hd.cells.lt; have := hd.at_; omega) (by have := hd.at_; omega) (fun e => by have := (hd.row.block e.symm).1; omega)⟩
theorem DiskS.below {w w1 : World} {base B n : Nat} {v : Value} {xs : List Int} {s m : Int} (h : DiskS w base B v xs s m) (hb : Below n w w1) (hn : w.heap.size ≤ n) : DiskS w1 base B v xs s m :=
 { h with cells := h.cells.move (hb.block _ (by have := h.cells.lt; omega)), row := h.row.move fun k hk => hb.block _ (by have := (h.row.block hk).2.1; omega) }
theorem DiskS.other {w w1 : World} {base B base' B' : Nat} {v v' u : Value} {xs ys : List Int} {s m s' m' : Int} (h : DiskS w base B v xs s m) (k : DiskS w base' B' u ys s' m') (st : DStep w w1 B' u v') (hne : B ≠ B') (hrow : ∀ b, v.ownBlock = some b → u.ownBlock ≠ some b) : DiskS w1 base B v xs s m :=
 { h with
  cells := h.cells.move (st.block _ h.cells.lt hne (h.cells.apart k.row))
  row := h.row.move fun b hb => st.block _ (h.row.block hb).2.1 (fun e => k.cells.apart h.row (by rw [hb, e])) (fun e => hrow b hb e.symm) }
end Go.Proofs.Ytmbnjgnmblgjoaa.Man
end
section
namespace Go.Proofs.Ytmbnjgnmblgjoaa.Man
open Go.RowKit Go.Proofs.YtmbnjgnmblgjoaaW.PrintWords Go.Proofs.YtmbnjgnmblgjoaaW.PrintLast
set_option linter.unusedVariables false
set_option linter.unusedSimpArgs false
set_option maxRecDepth 100000
theorem DiskS.none {w : World} {base B : Nat} {v : Value} {xs : List Int} {s m : Int} (h : DiskS w base B v xs s m) : Calls Try.prog 99 #[.pointer (some ⟨B, 0, none⟩)] w fun e w' => e = .returned (.bool false) ∧ w = w' := none_at w B v s m true h.cells
theorem new_is (n : Int) (w : World) (base : Nat) (hb : base ≤ w.heap.size) (h0 : 0 ≤ n) (h1 : n ≤ 262144) : Calls Try.prog 26 #[.int .i64 n] w fun e w' => e = .returned (.tuple #[.pointer (some ⟨w.heap.size, 0, none⟩), .int .i64 0]) ∧ DiskS w' base w.heap.size (.slice none 0 0) [] 0 n ∧ Below w.heap.size w w' := by
 go_enter Try.func26, Try.ntmps26
 go_wp2
 go_ret2
 exact ⟨rfl, ⟨World.alloc_heap_new w _, DRow.nil _ _, hb, h0, h1, h0, by omega, by simp⟩, (Below.refl _ _).alloc (Nat.le_refl _) _⟩
theorem len_is {w : World} {base B : Nat} {v : Value} {xs : List Int} {s m : Int} (h : DiskS w base B v xs s m) : Calls Try.prog 39 #[.pointer (some ⟨B, 0, none⟩)] w fun e w' => e = .returned (.int .i64 (xs.length : Int)) ∧ w = w' := by
 obtain ⟨A, c, rfl, hc⟩ := h.row.len
 have c0 := h.cells.c0
 have H := Lib.hid h
 clear h
 go_enter Try.func39, Try.ntmps39
 go_wp2_with (go_at_call 99; refine H.out.none.mono ?_; rintro e w' ⟨rfl, rfl⟩)
 go_ret
 exact ⟨rfl, rfl⟩
theorem sure_is {w : World} {base B : Nat} {v : Value} {xs : List Int} {s m : Int} (h : DiskS w base B v xs s m) : Calls Try.prog 40 #[.pointer (some ⟨B, 0, none⟩)] w fun e w' => e = .returned (.int .i64 s) ∧ w = w' := by
 have c1 := h.cells.c1
 have H := Lib.hid h
 clear h
 go_enter Try.func40, Try.ntmps40
 go_wp2_with (go_at_call 99; refine H.out.none.mono ?_; rintro e w' ⟨rfl, rfl⟩)
 go_ret
 exact ⟨rfl, rfl⟩
theorem DStep.put {w w1 : World} {B : Nat} {v v' : Value} (h : DStep w w1 B v v') (k : Nat) (u : Value) : DStep w (w1.setCell ⟨B, k, none⟩ u) B v v' :=
 ⟨h.os, h.tape, h.output, by simpa [World.setCell] using h.size, fun i hi h1 h2 => (Below.heap_setCell w1 ⟨B, k, none⟩ u i h1).trans (h.block i hi h1 h2), h.row⟩
theorem DStep.refl (w : World) (B : Nat) (v : Value) : DStep w w B v v := ⟨rfl, rfl, rfl, Nat.le_refl _, fun _ _ _ _ => rfl, .inl rfl⟩
theorem sync_is {w : World} {base B : Nat} {v : Value} {xs : List Int} {s m : Int} (h : DiskS w base B v xs s m) : Calls Try.prog 32 #[.pointer (some ⟨B, 0, none⟩)] w fun e w' => e = .returned (.int .i64 0) ∧ DiskS w' base B v xs (xs.length : Int) m ∧ DStep w w' B v v := by
 obtain ⟨A, c, rfl, hc⟩ := h.row.len
 have c0 := h.cells.c0
 have c1 := h.cells.c1
 have f1 := h.cells.f 1
 have H := Lib.hid h
 clear h
 go_enter Try.func32, Try.ntmps32
 go_wp2_with (go_at_call 99; refine H.out.none.mono ?_; rintro e w' ⟨rfl, rfl⟩)
 go_ret
 have h := H.out
 refine ⟨rfl, { h with cells := h.cells.put1 _, row := h.row.move fun k hk => Below.heap_setCell _ _ _ _ fun e => h.cells.apart h.row (by rw [hk, e]), s0 := by omega, s1 := by omega }, (DStep.refl _ _ _).put _ _⟩
theorem append_is {w : World} {base B : Nat} {v : Value} {xs ys : List Int} {s m : Int} (h : DiskS w base B v xs s m) (A : Option Addr) (c : Nat) (HR : Kd.C (Kd.int .u8) w A ys.length ys) (hroom : (ys.length : Int) ≤ m - (xs.length : Int)) : Calls Try.prog 29 #[.pointer (some ⟨B, 0, none⟩), .slice A ys.length c] w fun e w' => e = .returned (.int .i64 0) ∧ ∃ v', DiskS w' base B v' (xs ++ ys) s m ∧ DStep w w' B v v' := by
 obtain ⟨A', c', rfl, hc⟩ := h.row.len
 have c0 := h.cells.c0
 have c2 := h.cells.c2
 have m0 := h.m0
 have m1 := h.m1
 have hl := h.len
 have H := Lib.hid h
 have HC := Lib.hid HR
 clear h HR
 go_enter Try.func29, Try.ntmps29
 go_wp2_with (go_at_call 99; refine H.out.none.mono ?_; rintro e w' ⟨rfl, rfl⟩)
 go_quiet (fail)
 go_wp2_with (at_builtin; refine DRow.append_ev (w := w.drewN nq) (H.out.row.move fun k hk => rfl) (Kd.C_below HC.out ⟨rfl, rfl, rfl, Nat.le_refl _, fun _ _ => rfl⟩) rfl _ _ rfl rfl rfl (Nat.le_of_lt (Nat.lt_of_le_of_lt H.out.at_ H.out.cells.lt)) (by omega) ?_; intro v1 w1 hd hg hat; obtain ⟨A1, c1, rfl, hc1⟩ := hd.len; have hD : DiskAt w1 B (.slice A' xs.length c') s m true := H.out.cells.move (hg.block B H.out.cells.lt (H.out.cells.apart H.out.row)); have k0 := hD.c0; have g0 := hD.f 0; have HD := Lib.hid hD; have HR := Lib.hid hd; have HG := Lib.hid hg; have HAT := Lib.hid hat; clear hD hd hg hat)
 go_ret
 have h := H.out
 have hd := HR.out
 have hg := HG.out
 rw [← List.length_append]
 refine ⟨rfl, _, ⟨HD.out.put0 _, hd.move fun k hk => Below.heap_setCell _ _ _ _ fun e => HD.out.apart hd (by rw [hk, e]), h.at_, m0, m1, by rw [List.length_append]; omega, h.s0, by have := h.s1; rw [List.length_append]; omega⟩, DStep.put (w := w) ⟨hg.os, hg.tape, hg.output, hg.size, fun k hk _ h2 => hg.block k hk h2, HAT.out⟩ _ _⟩
theorem append_full {w : World} {base B : Nat} {v : Value} {xs : List Int} {s m : Int} (h : DiskS w base B v xs s m) (A : Option Addr) (l c : Nat) (hl63 : l ≤ 9223372036854775807) (hroom : ¬ ((l : Int) ≤ m - (xs.length : Int))) : Calls Try.prog 29 #[.pointer (some ⟨B, 0, none⟩), .slice A l c] w fun e w' => e = .returned (.int .i64 12) ∧ ∃ n, w' = w.drewN n := by
 obtain ⟨A', c', rfl, hc⟩ := h.row.len
 have c0 := h.cells.c0
 have c2 := h.cells.c2
 have m0 := h.m0
 have m1 := h.m1
 have hl := h.len
 have H := Lib.hid h
 clear h
 go_enter Try.func29, Try.ntmps29
 go_wp2_with (go_at_call 99; refine H.out.none.mono ?_; rintro e w' ⟨rfl, rfl⟩)
 go_quiet (fail)
 go_wp2
 go_ret
 exact ⟨rfl, _, rfl⟩
theorem DRow.keep {w : World} {base : Nat} {A : Option Addr} {c n : Nat} {xs : List Int} (h : DRow w base (.slice A xs.length c) xs) (hn : n ≤ xs.length) : DRow w base (.slice A n n) (xs.take n) := by
 rcases h with ⟨h, rfl⟩ | ⟨g, cap, cur, e, h1, h2, h3, h4, h5, h6⟩
 · cases h
   obtain rfl : n = 0 := by simpa using hn
   exact .inl ⟨rfl, rfl⟩
 · cases e
   have hl : (xs.take n).length = n := by rw [List.length_take]; omega
   refine .inr ⟨g, n, cur, by rw [hl], h1, h2, by omega, by omega, by omega, ?_⟩
   rw [hl]
   have := congrArg (List.take n) h6
   rw [List.take_take, Nat.min_eq_left hn] at this
   rw [this]
   simp [encs, List.map_take]
theorem keep_is {w : World} {base B : Nat} {v : Value} {xs : List Int} {s m : Int} (h : DiskS w base B v xs s m) (n : Nat) (hn : n ≤ xs.length) : Calls Try.prog 100 #[.pointer (some ⟨B, 0, none⟩), .int .i64 n] w fun e w' => e = .returned (.tuple #[]) ∧ ∃ v', DiskS w' base B v' (xs.take n) n m ∧ DStep w w' B v v' := by
 obtain ⟨A, c, rfl, hc⟩ := h.row.len
 have c0 := h.cells.c0
 have f0 := h.cells.f 0
 have f1 := h.cells.f 1
 have c1 := h.cells.c1
 have m0 := h.m0
 have m1 := h.m1
 have hl := h.len
 have H := Lib.hid h
 clear h
 go_enter Try.func100, Try.ntmps100
 go_wp2
 have h := H.out
 have hr := h.row.keep hn
 have hap : ∀ k, Value.ownBlock (.slice A n n) = some k → k ≠ B := fun k hk e => h.cells.apart h.row (by rw [← e, ← hk]; cases A <;> rfl)
 go_end0
 refine ⟨rfl, _, ⟨(h.cells.put0 _).put1 _, (hr.move fun k hk => Below.heap_setCell _ _ _ _ (hap k hk)).move fun k hk => Below.heap_setCell _ _ _ _ (hap k hk), h.at_, m0, m1, by rw [List.length_take]; omega, by omega, by rw [List.length_take]; omega⟩, (DStep.put ⟨rfl, rfl, rfl, Nat.le_refl _, fun _ _ _ _ => rfl, .inl (by cases A <;> rfl)⟩ _ _).put _ _⟩
theorem cut_is {w : World} {base B : Nat} {v : Value} {xs : List Int} {s m : Int} (h : DiskS w base B v xs s m) (n : Nat) (hn : n ≤ xs.length) : Calls Try.prog 35 #[.pointer (some ⟨B, 0, none⟩), .int .i64 n] w fun e w' => e = .returned (.int .i64 0) ∧ ∃ v', DiskS w' base B v' (xs.take n) n m ∧ DStep w w' B v v' := by
 obtain ⟨A, c, rfl, hc⟩ := h.row.len
 have c0 := h.cells.c0
 have m0 := h.m0
 have m1 := h.m1
 have hl := h.len
 have H := Lib.hid h
 clear h
 go_enter Try.func35, Try.ntmps35
 go_wp2_with (first
  | (go_at_call 99; refine H.out.none.mono ?_; rintro e w' ⟨rfl, rfl⟩)
  | (go_at_call 100; refine (keep_is H.out n hn).mono ?_; rintro e w1 ⟨rfl, v1, hk, hs⟩; have HK := Lib.hid hk; have HS := Lib.hid hs; clear hk hs))
 go_ret
 exact ⟨rfl, v1, HK.out, HS.out⟩
theorem crash_is {w : World} {base B : Nat} {v : Value} {xs : List Int} {s m : Int} (h : DiskS w base B v xs s m) (k : Int) (hk0 : 0 ≤ k) (hk1 : k ≤ 9223372036854775807) (n : Nat) (hn : (n : Int) = s + min k ((xs.length : Int) - s)) : Calls Try.prog 33 #[.pointer (some ⟨B, 0, none⟩), .int .i64 k] w fun e w' => e = .returned (.int .i64 0) ∧ ∃ v', DiskS w' base B v' (xs.take n) n m ∧ DStep w w' B v v' := by
 have HN := Lib.hid hn
 clear hn
 obtain ⟨A, c, rfl, hc⟩ := h.row.len
 have c0 := h.cells.c0
 have c1 := h.cells.c1
 have m0 := h.m0
 have m1 := h.m1
 have hl := h.len
 have s0 := h.s0
 have s1 := h.s1
 have H := Lib.hid h
 clear h
 go_enter Try.func33, Try.ntmps33
 go_wp2_with (go_at_call 99; refine H.out.none.mono ?_; rintro e w' ⟨rfl, rfl⟩)
 go_still_tail 18, (by kernel_rfl)
 repeat still_step
 have e1 : IntKind.i64.wrap ((xs.length : Int) - s) = (xs.length : Int) - s := by rw [IntKind.wrap_i64]; omega
 have hn := HN.out
 have e2 : IntKind.i64.wrap (s + if (xs.length : Int) - s < k then (xs.length : Int) - s else k) = (n : Int) := by
  rw [IntKind.wrap_i64]
  split <;> omega
 have hnl : n ≤ xs.length := by omega
 rw [e1, e2]
 clear e1 e2 hn
 change wpList _ _ _ _ _ w.drew
 have H2 : Hid (DiskS w.drew base B (.slice A xs.length c) xs s m) := Lib.hid (H.out.below (Below.refl _ _).drew (Nat.le_refl _))
 have HF : Hid (∀ w' v', DStep w.drew w' B (.slice A xs.length c) v' → DStep w w' B (.slice A xs.length c) v') := Lib.hid fun w' v' h => ⟨h.os, h.tape, h.output, h.size, h.block, h.row⟩
 clear c0 c1
 generalize w.drew = w2 at *
 go_wp2_with (go_at_call 100; refine (keep_is H2.out n hnl).mono ?_; rintro e w1 ⟨rfl, v1, hk, hs⟩; have HK := Lib.hid hk; have HS := Lib.hid hs; clear hk hs)
 all_goals (go_ret; exact ⟨rfl, v1, HK.out, HF.out _ _ HS.out⟩)
theorem crash_bad {w : World} {base B : Nat} {v : Value} {xs : List Int} {s m : Int} (h : DiskS w base B v xs s m) (k : Int) (hk0 : k < 0) : Calls Try.prog 33 #[.pointer (some ⟨B, 0, none⟩), .int .i64 k] w fun e w' => e = .returned (.int .i64 1) ∧ w = w' := by
 have H := Lib.hid h
 clear h
 go_enter Try.func33, Try.ntmps33
 go_wp2_with (go_at_call 99; refine H.out.none.mono ?_; rintro e w' ⟨rfl, rfl⟩)
 go_ret
 exact ⟨rfl, rfl⟩
theorem bytes_is {w : World} {base B : Nat} {v : Value} {xs : List Int} {s m : Int} (h : DiskS w base B v xs s m) : Calls Try.prog 38 #[.pointer (some ⟨B, 0, none⟩)] w fun e w' => ∃ u, e = .returned u ∧ Kd.R (Kd.int .u8) 5 w' w.heap.size (fun _ => True) u xs ∧ Below w.heap.size w w' := by
 obtain ⟨A, c, rfl, hc⟩ := h.row.len
 have c0 := h.cells.c0
 have m1 := h.m1
 have hl := h.len
 have H := Lib.hid h
 clear h
 go_enter Try.func38, Try.ntmps38
 go_wp2_with (first
  | (go_at_call 99; refine H.out.none.mono ?_; rintro e w' ⟨rfl, rfl⟩)
  | (refine Kd.R_make (Kd.int .u8) (w0 := w) w.heap.size 5 rfl rfl 27 _ _ rfl (xs.length : Int) rfl rfl (by kernel_rfl) (.int .u8 0) 1 (by kernel_rfl) rfl (by decide) (by decide) 0 (okp := fun _ => True) (ok := fun _ => True) rfl (fun _ _ => trivial) trivial (by omega) (by omega) (Below.refl _ _) (Nat.le_refl _) ?_; intro v1 w1 hr hb hg ho; rw [Int.toNat_natCast] at hr; obtain ⟨A1, c1, hv1, hc1, _⟩ := Kd.R_reads hr; rw [List.length_replicate] at hv1 hc1; subst hv1; have hD : DiskS w1 base B (.slice A xs.length c) xs s m := H.out.below hb (Nat.le_refl _); have k0 := hD.cells.c0; have HD := Lib.hid hD; have HR := Lib.hid hr; have HB := Lib.hid hb; clear hD hr hb hg ho)
  | (refine Kd.R_copy (enc := Value.int .u8) (h1 := fun _ => rfl) (d := (0 : Int)) (w0 := w) w.heap.size rfl _ _ 27 27 5 rfl (by kernel_rfl) (by kernel_rfl) _ _ xs A xs.length c (fun _ => True) rfl rfl HR.out HD.out.row.C.2 HB.out HB.out.size ?_; intro w2 hr2 hb2 hg2; have HR2 := Lib.hid hr2; have HB2 := Lib.hid hb2; clear hr2 hb2 hg2))
 go_ret
 have hr := HR2.out
 have e : xs.take (min xs.length (List.replicate xs.length (0 : Int)).length) ++ (List.replicate xs.length (0 : Int)).drop (min xs.length (List.replicate xs.length (0 : Int)).length) = xs := by simp
 rw [e] at hr
 exact ⟨_, rfl, hr, HB2.out⟩
end Go.Proofs.Ytmbnjgnmblgjoaa.Man
end
section
namespace Go.Proofs.Ytmbnjgnmblgjoaa.Man
open Go.RowKit Go.Proofs.YtmbnjgnmblgjoaaW.PrintWords Go.Proofs.YtmbnjgnmblgjoaaW.PrintLast
set_option linter.unusedVariables false
set_option linter.unusedSimpArgs false
set_option maxRecDepth 100000
theorem copy_is {w : World} {base B : Nat} {v : Value} {xs : List Int} {s m : Int} (h : DiskS w base B v xs s m) : Calls Try.prog 37 #[.pointer (some ⟨B, 0, none⟩)] w fun e w' => ∃ B' v', e = .returned (.pointer (some ⟨B', 0, none⟩)) ∧ DiskS w' w.heap.size B' v' xs s m ∧ Below w.heap.size w w' := by
 have H := Lib.hid h
 have HB := Lib.hid (Below.refl w.heap.size w)
 have c1 := h.cells.c1
 have c2 := h.cells.c2
 clear h
 go_enter Try.func37, Try.ntmps37
 go_wp2_with (go_at_call 99; refine H.out.none.mono ?_; rintro e w' ⟨rfl, rfl⟩)
 have H1 : Hid (DiskS w.drew base B v xs s m) := Lib.hid (H.out.below (Below.refl _ _).drew (Nat.le_refl _))
 have HB1 : Hid (Below w.heap.size w w.drew) := Lib.hid (Below.refl _ _).drew
 go_region_held3 (fun w' => w'.cell? ⟨B, 1, none⟩ = some (.int .i64 s) ∧ w'.cell? ⟨B, 2, none⟩ = some (.int .i64 m))
  (first
   | exact ⟨c1, c2⟩
   | exact ⟨H2.out.cells.c1, H2.out.cells.c2⟩
   | exact ⟨(H2.out.below ((Below.refl _ _).alloc (Nat.le_refl _) _) (Nat.le_refl _)).cells.c1, (H2.out.below ((Below.refl _ _).alloc (Nat.le_refl _) _) (Nat.le_refl _)).cells.c2⟩)
  (first
   | (go_at_call 38; refine (bytes_is H1.out).mono ?_; rintro e w2 ⟨u, rfl, hr, hb⟩; obtain ⟨A1, k1, rfl, hk1, _⟩ := Kd.R_reads hr; have H2 : Hid (DiskS w2 base B v xs s m) := Lib.hid (H1.out.below hb (Nat.le_refl _)); have HR := Lib.hid hr; have HB2 := Lib.hid hb; clear hr hb))
 go_wp2
 go_ret
 have h := H.out
 have hb : Below w.heap.size w w2 := HB1.out.trans HB2.out
 have hr : DRow w2 w.heap.size (.slice A1 xs.length k1) xs := DRow.of_own (Kd.own_of_R HR.out)
 refine ⟨_, _, rfl, ⟨World.alloc_heap_new w2 _, hr.move fun k hk => Below.heap_alloc _ _ _ (hr.block hk).2.1, hb.size, h.m0, h.m1, h.len, h.s0, h.s1⟩, hb.alloc hb.size _⟩
end Go.Proofs.Ytmbnjgnmblgjoaa.Man
end
section
namespace Go.Proofs.Ytmbnjgnmblgjoaa.Man
open Go.RowKit Go.Proofs.YtmbnjgnmblgjoaaW.PrintWords Go.Proofs.YtmbnjgnmblgjoaaW.PrintLast
set_option linter.unusedVariables false
set_option linter.unusedSimpArgs false
set_option maxRecDepth 100000
theorem str_of {w : World} {A : Option Addr} {n : Nat} {c : Nat} {xs : List Int} (h : Kd.C (Kd.int .u8) w A n xs) : (convert 27 9 (.slice A n c)).run Try.prog w = .ok (.string (strOfNums xs)) w :=
 Kd.C_string (e := 5) (by kernel_rfl) (by kernel_rfl) (by kernel_rfl) h
end Go.Proofs.Ytmbnjgnmblgjoaa.Man
end
section
namespace Go.Proofs.Ytmbnjgnmblgjoaa.Man
open Go.RowKit Go.Proofs.YtmbnjgnmblgjoaaW.PrintWords Go.Proofs.YtmbnjgnmblgjoaaW.PrintLast
set_option linter.unusedVariables false
set_option linter.unusedSimpArgs false
set_option maxRecDepth 100000
def RefAt (w : World) (B : Nat) (v : Value) (s m : Int) : Prop := w.heap[B]? = some (.cells #[v, .int .i64 s, .int .i64 m] 57 (0, 0))
theorem RefAt.c0 {w : World} {B : Nat} {v : Value} {s m : Int} (h : RefAt w B v s m) : w.cell? ⟨B, 0, none⟩ = some v := by simp [World.cell?, show w.heap[B]? = _ from h]
theorem RefAt.c1 {w : World} {B : Nat} {v : Value} {s m : Int} (h : RefAt w B v s m) : w.cell? ⟨B, 1, none⟩ = some (.int .i64 s) := by simp [World.cell?, show w.heap[B]? = _ from h]
theorem RefAt.c2 {w : World} {B : Nat} {v : Value} {s m : Int} (h : RefAt w B v s m) : w.cell? ⟨B, 2, none⟩ = some (.int .i64 m) := by simp [World.cell?, show w.heap[B]? = _ from h]
theorem RefAt.lt {w : World} {B : Nat} {v : Value} {s m : Int} (h : RefAt w B v s m) : B < w.heap.size := (Array.getElem?_eq_some_iff.1 h).1
theorem RefAt.f {w : World} {B : Nat} {v : Value} {s m : Int} (h : RefAt w B v s m) (k : Nat) : w.frozen? ⟨B, k, none⟩ = false := by simp [World.frozen?, show w.heap[B]? = _ from h]
theorem RefAt.put0 {w : World} {B : Nat} {v : Value} {s m : Int} (h : RefAt w B v s m) (v' : Value) : RefAt (w.setCell ⟨B, 0, none⟩ v') B v' s m := by
 unfold RefAt World.setCell
 simp [Array.getElem?_modify, show w.heap[B]? = _ from h]
theorem RefAt.put1 {w : World} {B : Nat} {v : Value} {s m : Int} (h : RefAt w B v s m) (s' : Int) : RefAt (w.setCell ⟨B, 1, none⟩ (.int .i64 s')) B v s' m := by
 unfold RefAt World.setCell
 simp [Array.getElem?_modify, show w.heap[B]? = _ from h]
theorem RefAt.move {w w1 : World} {B : Nat} {v : Value} {s m : Int} (h : RefAt w B v s m) (hm : w1.heap[B]? = w.heap[B]?) : RefAt w1 B v s m := hm.trans h
theorem RefAt.apart {w : World} {B base : Nat} {v u : Value} {s m : Int} {xs : List Int} (h : RefAt w B v s m) (hr : DRow w base u xs) : some B ≠ u.ownBlock := by
 intro e
 obtain ⟨_, _, cur, hc⟩ := hr.block e.symm
 rw [show w.heap[B]? = _ from h] at hc
 cases hc
structure RefS (w : World) (base B : Nat) (v : Value) (xs : List Int) (s m : Int) : Prop where
 cells : RefAt w B v s m
 row : DRow w base v xs
 at_ : base ≤ B
 m0 : 0 ≤ m
 m1 : m ≤ 262144
 len : (xs.length : Int) ≤ m
 s0 : 0 ≤ s
 s1 : s ≤ (xs.length : Int)
theorem DStep.belowR {w w' : World} {base B : Nat} {v v' : Value} {xs : List Int} {s m : Int} (h : DStep w w' B v v') (hd : RefS w base B v xs s m) : Below base w w' :=
 ⟨h.os, h.tape, h.output, h.size, fun k hk => h.block k (by have := hd.cells.lt; have := hd.at_; omega) (by have := hd.at_; omega) (fun e => by have := (hd.row.block e.symm).1; omega)⟩
theorem RefS.below {w w1 : World} {base B n : Nat} {v : Value} {xs : List Int} {s m : Int} (h : RefS w base B v xs s m) (hb : Below n w w1) (hn : w.heap.size ≤ n) : RefS w1 base B v xs s m :=
 { h with cells := h.cells.move (hb.block _ (by have := h.cells.lt; omega)), row := h.row.move fun k hk => hb.block _ (by have := (h.row.block hk).2.1; omega) }
theorem refNew_is (n : Int) (w : World) (base : Nat) (hb : base ≤ w.heap.size) (h0 : 0 ≤ n) (h1 : n ≤ 262144) : Calls Try.prog 27 #[.int .i64 n] w fun e w' => e = .returned (.tuple #[.pointer (some ⟨w.heap.size, 0, none⟩), .int .i64 0]) ∧ RefS w' base w.heap.size (.slice none 0 0) [] 0 n ∧ Below w.heap.size w w' := by
 go_enter Try.func27, Try.ntmps27
 go_wp2
 go_ret2
 exact ⟨rfl, ⟨World.alloc_heap_new w _, DRow.nil _ _, hb, h0, h1, h0, by omega, by simp⟩, (Below.refl _ _).alloc (Nat.le_refl _) _⟩
theorem refNew_bad (n : Int) (w : World) (hn : n < 0 ∨ 262144 < n) : Calls Try.prog 27 #[.int .i64 n] w fun e w' => e = .returned (.tuple #[.pointer none, .int .i64 1]) ∧ w = w' := by
 rcases hn with hn | hn
 · go_enter Try.func27, Try.ntmps27
   go_wp2
   go_ret2
   exact ⟨rfl, rfl⟩
 · have h0 : ¬ n < 0 := by omega
   go_enter Try.func27, Try.ntmps27
   go_wp2
   go_ret2
   exact ⟨rfl, rfl⟩
theorem new_bad (n : Int) (w : World) (hn : n < 0 ∨ 262144 < n) : Calls Try.prog 26 #[.int .i64 n] w fun e w' => e = .returned (.tuple #[.pointer none, .int .i64 1]) ∧ w = w' := by
 rcases hn with hn | hn
 · go_enter Try.func26, Try.ntmps26
   go_wp2
   go_ret2
   exact ⟨rfl, rfl⟩
 · have h0 : ¬ n < 0 := by omega
   go_enter Try.func26, Try.ntmps26
   go_wp2
   go_ret2
   exact ⟨rfl, rfl⟩
theorem refSync_is {w : World} {base B : Nat} {v : Value} {xs : List Int} {s m : Int} (h : RefS w base B v xs s m) : Calls Try.prog 31 #[.pointer (some ⟨B, 0, none⟩)] w fun e w' => e = .returned (.tuple #[]) ∧ RefS w' base B v xs (xs.length : Int) m ∧ DStep w w' B v v := by
 obtain ⟨A, c, rfl, hc⟩ := h.row.len
 have c0 := h.cells.c0
 have c1 := h.cells.c1
 have f1 := h.cells.f 1
 have H := Lib.hid h
 clear h
 go_enter Try.func31, Try.ntmps31
 go_wp2
 go_end0
 have h := H.out
 refine ⟨rfl, { h with cells := h.cells.put1 _, row := h.row.move fun k hk => Below.heap_setCell _ _ _ _ fun e => h.cells.apart h.row (by rw [hk, e]), s0 := by omega, s1 := by omega }, (DStep.refl _ _ _).put _ _⟩
theorem DRow.empty (W : World) (base : Nat) (hb : base ≤ W.heap.size) : DRow (W.alloc (.cells #[] 5)) base (.slice (some ⟨W.heap.size, 0, none⟩) 0 0) [] :=
 .inr ⟨_, 0, #[], rfl, hb, World.alloc_heap_new W _, by simp, by simp, by decide, rfl⟩
theorem refAppend_is {w : World} {base B : Nat} {v : Value} {xs ys : List Int} {s m : Int} (h : RefS w base B v xs s m) (A : Option Addr) (c : Nat) (HR : Kd.C (Kd.int .u8) w A ys.length ys) (hroom : (ys.length : Int) ≤ m - (xs.length : Int)) : Calls Try.prog 30 #[.pointer (some ⟨B, 0, none⟩), .slice A ys.length c] w fun e w' => e = .returned (.int .i64 0) ∧ ∃ v', RefS w' base B v' (xs ++ ys) s m ∧ DStep w w' B v v' := by
 obtain ⟨A', c', rfl, hc⟩ := h.row.len
 have c0 := h.cells.c0
 have c2 := h.cells.c2
 have m0 := h.m0
 have m1 := h.m1
 have hl := h.len
 have H := Lib.hid h
 have HC := Lib.hid HR
 clear h HR
 go_enter Try.func30, Try.ntmps30
 go_wp2
 go_quiet (fail)
 have H1 : Hid (RefS (w.drewN nq) base B (.slice A' xs.length c') xs s m) := Lib.hid (H.out.below (pw_below_drewN (Below.refl _ _) nq) (Nat.le_refl _))
 have HC1 : Hid (Kd.C (Kd.int .u8) (w.drewN nq) A ys.length ys) := Lib.hid (Kd.C_below HC.out (pw_below_drewN (Below.refl _ _) nq))
 have HF : Hid (∀ w' v', DStep (w.drewN nq) w' B (.slice A' xs.length c') v' → DStep w w' B (.slice A' xs.length c') v') := Lib.hid fun w' v' h => ⟨h.os, h.tape, h.output, h.size, h.block, h.row⟩
 clear c0 c2 H HC
 generalize w.drewN nq = w1 at *
 have c0 := H1.out.cells.c0
 have hlt := H1.out.cells.lt
 have hbe : Below w1.heap.size w1 (w1.alloc (.cells #[] 5)) := (Below.refl _ _).alloc (Nat.le_refl _) _
 have a0 : (w1.alloc (.cells #[] 5)).cell? ⟨B, 0, none⟩ = some (.slice A' xs.length c') := (hbe.cell (p := ⟨B, 0, none⟩) hlt).trans c0
 have HE := Lib.hid hbe
 clear hbe c0
 go_wp2_with (first
  | (at_builtin; refine DRow.append_ev (w := w1.alloc (.cells #[] 5)) (DRow.empty w1 w1.heap.size (Nat.le_refl _)) (ys := xs) (c := c') ((H1.out.below HE.out (Nat.le_refl _)).row.C.2) rfl (.tmp 19) (.tmp 23) rfl rfl rfl HE.out.size (by simp only [List.length_nil]; omega) ?_; intro v1 w2 hd hg hat; rw [List.nil_append] at hd; have HB2 := Lib.hid (HE.out.grown hg HE.out.size (fun k e => by cases e; exact Nat.le_refl _)); obtain ⟨A1, k1, rfl, hk1⟩ := hd.len; have HO2 : Hid (∃ b, Value.ownBlock (.slice A1 xs.length k1) = some b ∧ w1.heap.size ≤ b) := Lib.hid (by rcases hat with e | ⟨b, e, hb⟩; exact ⟨_, e, Nat.le_refl _⟩; exact ⟨b, e, Nat.le_trans HE.out.size hb⟩); have HD2 := Lib.hid hd; clear hd hg hat hk1)
  | (at_builtin; refine DRow.append_ev (w := w2) HD2.out (ys := ys) (c := c) (Kd.C_below HC1.out HB2.out) rfl (.tmp 24) (.tmp 25) rfl rfl rfl HB2.out.size (by omega) ?_; intro v2 w3 hd hg hat; have HB3 := Lib.hid (HB2.out.grown hg HB2.out.size (fun k e => (HD2.out.block e).1)); obtain ⟨A2, k2, rfl, hk2⟩ := hd.len; have h3 := H1.out.cells.move (HB3.out.block B hlt); have k0 := h3.c0; have g0 := h3.f 0; have HX := Lib.hid h3; have HD3 := Lib.hid hd; have HO3 : Hid (∃ b, Value.ownBlock (.slice A2 (xs ++ ys).length k2) = some b ∧ w1.heap.size ≤ b) := Lib.hid (by rcases hat with e | ⟨b, e, hb⟩; rw [e]; exact HO2.out; exact ⟨b, e, Nat.le_trans HB2.out.size hb⟩); clear hd hg hat hk2 h3))
 go_ret
 have hd := HD3.out
 have h := H1.out
 rw [← List.length_append]
 have e3 : ∀ k, Value.ownBlock (.slice A2 (xs ++ ys).length k2) = some k → k ≠ B := fun k hk e => HX.out.apart hd (by rw [hk, e])
 have hge : ∀ k, Value.ownBlock (.slice A2 (xs ++ ys).length k2) = some k → w1.heap.size ≤ k := fun k hk => (hd.block hk).1
 refine ⟨rfl, _, ⟨HX.out.put0 _, ((hd.move fun k hk => Below.heap_setCell _ _ _ _ (e3 k hk)).lower (Nat.le_of_lt (Nat.lt_of_le_of_lt h.at_ hlt))), h.at_, m0, m1, by rw [List.length_append]; omega, h.s0, by have := h.s1; rw [List.length_append]; omega⟩, HF.out _ _ (DStep.put ⟨HB3.out.os, HB3.out.tape, HB3.out.output, HB3.out.size, fun k hk _ _ => HB3.out.block k hk, .inr HO3.out⟩ _ _)⟩
theorem refAppend_full {w : World} {base B : Nat} {v : Value} {xs : List Int} {s m : Int} (h : RefS w base B v xs s m) (A : Option Addr) (l c : Nat) (hl63 : l ≤ 9223372036854775807) (hroom : ¬ ((l : Int) ≤ m - (xs.length : Int))) : Calls Try.prog 30 #[.pointer (some ⟨B, 0, none⟩), .slice A l c] w fun e w' => e = .returned (.int .i64 12) ∧ ∃ n, w' = w.drewN n := by
 obtain ⟨A', c', rfl, hc⟩ := h.row.len
 have c0 := h.cells.c0
 have c2 := h.cells.c2
 have m0 := h.m0
 have m1 := h.m1
 have hl := h.len
 clear h
 go_enter Try.func30, Try.ntmps30
 go_wp2
 go_quiet (fail)
 go_wp2
 go_ret
 exact ⟨rfl, _, rfl⟩
theorem DRow.C_take {w : World} {base : Nat} {A : Option Addr} {c n : Nat} {xs : List Int} (h : DRow w base (.slice A xs.length c) xs) (hn : n ≤ xs.length) : Kd.C (Kd.int .u8) w A n (xs.take n) := (h.keep hn).C.2
theorem refCut_is {w : World} {base B : Nat} {v : Value} {xs : List Int} {s m : Int} (h : RefS w base B v xs s m) (n : Nat) (hn : n ≤ xs.length) : Calls Try.prog 36 #[.pointer (some ⟨B, 0, none⟩), .int .i64 n] w fun e w' => e = .returned (.int .i64 0) ∧ ∃ v', RefS w' base B v' (xs.take n) n m ∧ DStep w w' B v v' := by
 obtain ⟨A', c', rfl, hc⟩ := h.row.len
 have c0 := h.cells.c0
 have m0 := h.m0
 have m1 := h.m1
 have hl := h.len
 have hlt := h.cells.lt
 have hbe : Below w.heap.size w (w.alloc (.cells #[] 5)) := (Below.refl _ _).alloc (Nat.le_refl _) _
 have a0 : (w.alloc (.cells #[] 5)).cell? ⟨B, 0, none⟩ = some (.slice A' xs.length c') := (hbe.cell (p := ⟨B, 0, none⟩) hlt).trans c0
 have HE := Lib.hid hbe
 have H := Lib.hid h
 have hnc : n ≤ c' := Nat.le_trans hn hc
 have hn63 : n ≤ 9223372036854775807 := by omega
 clear h hbe
 have HT : Hid (Kd.C (Kd.int .u8) w A' (xs.take n).length (xs.take n)) := Lib.hid (by have := H.out.row.C_take hn; rwa [List.length_take, Nat.min_eq_left hn])
 have hlt2 : (xs.take n).length = n := by rw [List.length_take]; omega
 obtain ⟨zs, hzs⟩ : ∃ zs, xs.take n = zs := ⟨_, rfl⟩
 rw [hzs] at HT hlt2 ⊢
 subst hlt2
 have HZ := Lib.hid hzs
 clear hzs
 go_enter Try.func36, Try.ntmps36
 go_wp2_with (at_builtin; refine DRow.append_ev (w := w.alloc (.cells #[] 5)) (DRow.empty w w.heap.size (Nat.le_refl _)) (ys := zs) (c := c') (Kd.C_below HT.out HE.out) rfl (.tmp 17) (.tmp 23) rfl rfl rfl HE.out.size (by simp only [List.length_nil]; omega) ?_; intro v1 w2 hd hg hat; rw [List.nil_append] at hd; have HB2 := Lib.hid (HE.out.grown hg HE.out.size (fun k e => by cases e; exact Nat.le_refl _)); obtain ⟨A1, k1, rfl, hk1⟩ := hd.len; have HO2 : Hid (∃ b, Value.ownBlock (.slice A1 zs.length k1) = some b ∧ w.heap.size ≤ b) := Lib.hid (by rcases hat with e | ⟨b, e, hb⟩; exact ⟨_, e, Nat.le_refl _⟩; exact ⟨b, e, Nat.le_trans HE.out.size hb⟩); have h3 := H.out.cells.move (HB2.out.block B hlt); have k0 := h3.c0; have g0 := h3.f 0; have k1' := h3.c1; have g1 := h3.f 1; have HX := Lib.hid h3; have HD2 := Lib.hid hd; clear hd hg hat hk1 h3)
 go_ret
 have hd := HD2.out
 have h := H.out
 have e3 : ∀ k, Value.ownBlock (.slice A1 zs.length k1) = some k → k ≠ B := fun k hk e => HX.out.apart hd (by rw [hk, e])
 refine ⟨rfl, _, ⟨(HX.out.put0 _).put1 _, (((hd.move fun k hk => Below.heap_setCell _ _ _ _ (e3 k hk)).move fun k hk => Below.heap_setCell _ _ _ _ (e3 k hk)).lower (Nat.le_of_lt (Nat.lt_of_le_of_lt h.at_ hlt))), h.at_, m0, m1, by omega, by omega, by omega⟩, DStep.put (DStep.put (w := w) ⟨HB2.out.os, HB2.out.tape, HB2.out.output, HB2.out.size, fun k hk _ _ => HB2.out.block k hk, .inr HO2.out⟩ _ _) _ _⟩
theorem refCrash_bad {w : World} (B : Nat) (k : Int) (hk0 : k < 0) : Calls Try.prog 34 #[.pointer (some ⟨B, 0, none⟩), .int .i64 k] w fun e w' => e = .returned (.int .i64 1) ∧ w = w' := by
 go_enter Try.func34, Try.ntmps34
 go_wp2
 go_ret
 exact ⟨rfl, rfl⟩
theorem refCrash_is {w : World} {base B : Nat} {v : Value} {xs : List Int} {s m : Int} (h : RefS w base B v xs s m) (k : Int) (hk0 : 0 ≤ k) (hk1 : k ≤ 9223372036854775807) (n : Nat) (hn : (n : Int) = s + min k ((xs.length : Int) - s)) : Calls Try.prog 34 #[.pointer (some ⟨B, 0, none⟩), .int .i64 k] w fun e w' => e = .returned (.int .i64 0) ∧ ∃ v', RefS w' base B v' (xs.take n) n m ∧ DStep w w' B v v' := by
 obtain ⟨A', c', rfl, hc⟩ := h.row.len
 have c0 := h.cells.c0
 have c1 := h.cells.c1
 have m0 := h.m0
 have m1 := h.m1
 have hl := h.len
 have s0 := h.s0
 have s1 := h.s1
 have hnx : n ≤ xs.length := by omega
 have HT0 : Kd.C (Kd.int .u8) w A' (xs.take n).length (xs.take n) := by have := h.row.C_take hnx; rwa [List.length_take, Nat.min_eq_left hnx]
 have hlt2 : (xs.take n).length = n := by rw [List.length_take]; omega
 obtain ⟨zs, hzs⟩ : ∃ zs, xs.take n = zs := ⟨_, rfl⟩
 rw [hzs] at HT0 hlt2 ⊢
 subst hlt2
 have HZ := Lib.hid hzs
 have HN := Lib.hid hn
 have H := Lib.hid h
 have HT1 := Lib.hid HT0
 clear h hn hzs HT0
 go_enter Try.func34, Try.ntmps34
 go_wp2
 go_quiet (fail)
 have e2 : (s + if (xs.length : Int) - s < k then (xs.length : Int) - s else k) = (zs.length : Int) := by
  have := HN.out
  split <;> omega
 rw [e2]
 clear e2 c0 c1
 have H2 : Hid (RefS (w.drewN nq) base B (.slice A' xs.length c') xs s m) := Lib.hid (H.out.below (pw_below_drewN (Below.refl _ _) nq) (Nat.le_refl _))
 have HF : Hid (∀ w' v', DStep (w.drewN nq) w' B (.slice A' xs.length c') v' → DStep w w' B (.slice A' xs.length c') v') := Lib.hid fun w' v' h => ⟨h.os, h.tape, h.output, h.size, h.block, h.row⟩
 have HT : Hid (Kd.C (Kd.int .u8) (w.drewN nq) A' zs.length zs) := Lib.hid (Kd.C_below HT1.out (pw_below_drewN (Below.refl _ _) nq))
 clear H HT1
 generalize w.drewN nq = w1 at *
 have H := H2
 have hlt := H.out.cells.lt
 have hbe : Below w1.heap.size w1 (w1.alloc (.cells #[] 5)) := (Below.refl _ _).alloc (Nat.le_refl _) _
 have a0 : (w1.alloc (.cells #[] 5)).cell? ⟨B, 0, none⟩ = some (.slice A' xs.length c') := (hbe.cell (p := ⟨B, 0, none⟩) hlt).trans H.out.cells.c0
 have HE := Lib.hid hbe
 have hnc : zs.length ≤ c' := Nat.le_trans hnx hc
 have hn63 : zs.length ≤ 9223372036854775807 := by omega
 clear hbe H2
 go_wp2_with (at_builtin; refine DRow.append_ev (w := w1.alloc (.cells #[] 5)) (DRow.empty w1 w1.heap.size (Nat.le_refl _)) (ys := zs) (c := c') (Kd.C_below HT.out HE.out) rfl (.tmp 26) (.tmp 32) rfl rfl rfl HE.out.size (by simp only [List.length_nil]; omega) ?_; intro v1 w2 hd hg hat; rw [List.nil_append] at hd; have HB2 := Lib.hid (HE.out.grown hg HE.out.size (fun k e => by cases e; exact Nat.le_refl _)); obtain ⟨A1, k1, rfl, hk1⟩ := hd.len; have HO2 : Hid (∃ b, Value.ownBlock (.slice A1 zs.length k1) = some b ∧ w1.heap.size ≤ b) := Lib.hid (by rcases hat with e | ⟨b, e, hb⟩; exact ⟨_, e, Nat.le_refl _⟩; exact ⟨b, e, Nat.le_trans HE.out.size hb⟩); have h3 := H.out.cells.move (HB2.out.block B hlt); have k0 := h3.c0; have g0 := h3.f 0; have k1' := h3.c1; have g1 := h3.f 1; have HX := Lib.hid h3; have HD2 := Lib.hid hd; clear hd hg hat hk1 h3)
 all_goals
  go_ret
  have hd := HD2.out
  have h := H.out
  have e3 : ∀ k, Value.ownBlock (.slice A1 zs.length k1) = some k → k ≠ B := fun k hk e => HX.out.apart hd (by rw [hk, e])
  refine ⟨rfl, _, ⟨(HX.out.put0 _).put1 _, (((hd.move fun k hk => Below.heap_setCell _ _ _ _ (e3 k hk)).move fun k hk => Below.heap_setCell _ _ _ _ (e3 k hk)).lower (Nat.le_of_lt (Nat.lt_of_le_of_lt h.at_ hlt))), h.at_, m0, m1, by omega, by omega, by omega⟩, HF.out _ _ (DStep.put (DStep.put (w := w1) ⟨HB2.out.os, HB2.out.tape, HB2.out.output, HB2.out.size, fun k hk _ _ => HB2.out.block k hk, .inr HO2.out⟩ _ _) _ _)⟩
end Go.Proofs.Ytmbnjgnmblgjoaa.Man
end
section
namespace Go.Proofs.Ytmbnjgnmblgjoaa.Man
open Go.RowKit Go.Proofs.YtmbnjgnmblgjoaaW.PrintWords Go.Proofs.YtmbnjgnmblgjoaaW.PrintLast
set_option linter.unusedVariables false
set_option linter.unusedSimpArgs false
set_option maxRecDepth 100000
def Apart (v u : Value) : Prop := ∀ b, v.ownBlock = some b → u.ownBlock ≠ some b
theorem Apart.symm {v u : Value} (h : Apart v u) : Apart u v := fun b hu hv => h b hv hu
theorem Apart.nil (u : Value) : Apart (.slice none 0 0) u := fun b h => by cases h
theorem DStep.apart {w w1 : World} {B base : Nat} {v v' u : Value} {ys : List Int} (st : DStep w w1 B v v') (h : Apart v u) (hu : DRow w base u ys) : Apart v' u := fun b hv hub => by
 rcases st.row with e | ⟨c, e, hc⟩
 · rw [e] at hv; exact h b hv hub
 · rw [e] at hv
   cases hv
   have := (hu.block hub).2.1
   omega
theorem RefS.ref {w w1 : World} {base B B' : Nat} {v v' u : Value} {ys xs : List Int} {s m s' m' : Int} {base' : Nat} (h : RefS w base B' u ys s m) (k : DiskS w base' B v xs s' m') (st : DStep w w1 B v v') (hne : B' ≠ B) (ha : Apart v u) : RefS w1 base B' u ys s m :=
 { h with
  cells := h.cells.move (st.block _ h.cells.lt hne (h.cells.apart k.row))
  row := h.row.move fun b hb => st.block _ (h.row.block hb).2.1 (fun e => k.cells.apart h.row (by rw [hb, e])) (fun e => ha b e.symm hb) }
theorem DiskS.ref {w w1 : World} {base B B' : Nat} {v u u' : Value} {ys xs : List Int} {s m s' m' : Int} {base' : Nat} (h : DiskS w base B v xs s m) (k : RefS w base' B' u ys s' m') (st : DStep w w1 B' u u') (hne : B ≠ B') (ha : Apart v u) : DiskS w1 base B v xs s m :=
 { h with
  cells := h.cells.move (st.block _ h.cells.lt hne (h.cells.apart k.row))
  row := h.row.move fun b hb => st.block _ (h.row.block hb).2.1 (fun e => k.cells.apart h.row (by rw [hb, e])) (fun e => ha b hb e.symm) }
theorem RefS.other {w w1 : World} {base B B' : Nat} {v u u' : Value} {ys xs : List Int} {s m s' m' : Int} {base' : Nat} (h : RefS w base B v xs s m) (k : RefS w base' B' u ys s' m') (st : DStep w w1 B' u u') (hne : B ≠ B') (ha : Apart v u) : RefS w1 base B v xs s m :=
 { h with
  cells := h.cells.move (st.block _ h.cells.lt hne (h.cells.apart k.row))
  row := h.row.move fun b hb => st.block _ (h.row.block hb).2.1 (fun e => k.cells.apart h.row (by rw [hb, e])) (fun e => ha b hb e.symm) }
theorem DStep.drewN (w : World) (B : Nat) (v : Value) (n : Nat) : DStep w (w.drewN n) B v v := ⟨rfl, rfl, rfl, Nat.le_refl _, fun _ _ _ _ => rfl, .inl rfl⟩
structure Two (w : World) (base B B' : Nat) (v u : Value) (xs : List Int) (s m : Int) : Prop where
 d : DiskS w base B v xs s m
 r : RefS w base B' u xs s m
 ne : B ≠ B'
 ap : Apart v u
theorem Two.below {w w1 : World} {base B B' n : Nat} {v u : Value} {xs : List Int} {s m : Int} (h : Two w base B B' v u xs s m) (hb : Below n w w1) (hn : w.heap.size ≤ n) : Two w1 base B B' v u xs s m :=
 ⟨h.d.below hb hn, h.r.below hb hn, h.ne, h.ap⟩
theorem at_rows {w : World} {A : Option Addr} {n : Nat} {ps : List (List Int)} (h : Kd.C (Kd.slice 5 (Kd.int .u8)) w A n ps) (i : Nat) (hi : i < n) :
 ∃ ad Ap cp, A = some ad ∧ w.cell? (ad.add i) = some (.slice Ap (ps.getD i []).length cp) ∧ (ps.getD i []).length ≤ cp ∧ Kd.C (Kd.int .u8) w Ap (ps.getD i []).length (ps.getD i []) := by
 obtain ⟨ad, c, e, hl, hk, hc⟩ := Kd.C_get h [] (i : Int) (by omega) (by omega)
 rw [Int.toNat_natCast] at hk hc
 obtain ⟨Ap, cp, rfl, hcp, hr⟩ := hk
 exact ⟨ad, Ap, cp, e, by simpa [Kd.slice] using hc 0 _ rfl, hcp, hr⟩
end Go.Proofs.Ytmbnjgnmblgjoaa.Man
end
section
namespace Go.Proofs.Ytmbnjgnmblgjoaa.Man
open Go.RowKit Go.Proofs.YtmbnjgnmblgjoaaW.PrintWords Go.Proofs.YtmbnjgnmblgjoaaW.PrintLast Go.Proofs.YtmbnjgnmblgjoaaW.PrintMore
set_option linter.unusedVariables false
set_option linter.unusedSimpArgs false
set_option maxRecDepth 100000
end Go.Proofs.Ytmbnjgnmblgjoaa.Man
end
section
namespace Go.Proofs.Ytmbnjgnmblgjoaa.Man
open Go.RowKit Go.Proofs.YtmbnjgnmblgjoaaW.PrintWords Go.Proofs.YtmbnjgnmblgjoaaW.PrintLast Go.Proofs.YtmbnjgnmblgjoaaW.PrintMore
set_option linter.unusedVariables false
set_option linter.unusedSimpArgs false
set_option maxRecDepth 100000
end Go.Proofs.Ytmbnjgnmblgjoaa.Man
end
section
namespace Go.Proofs.Ytmbnjgnmblgjoaa.Man
open Go.RowKit Go.Proofs.YtmbnjgnmblgjoaaW.PrintWords Go.Proofs.YtmbnjgnmblgjoaaW.PrintLast Go.Proofs.YtmbnjgnmblgjoaaW.PrintMore
set_option linter.unusedVariables false
set_option linter.unusedSimpArgs false
set_option maxRecDepth 100000
theorem OUT.lt {w : World} {base : Nat} {v : Value} {os : List (List Int)} (h : OUT w base v os) : ∀ k, v.ownBlock = some k → k < w.heap.size := fun k hk => own_lt (Kd.R_own h).choose_spec k hk
theorem BR.C {w : World} {base : Nat} {A : Option Addr} {c : Nat} {xs : List Int} (h : BR w base (.slice A xs.length c) xs) : Kd.C (Kd.int .u8) w A xs.length xs := by
 obtain ⟨A', c', e, _, hr⟩ := Kd.R_reads h
 cases e
 exact hr
theorem OUT.C {w : World} {base : Nat} {A : Option Addr} {c : Nat} {xs : List (List Int)} (h : OUT w base (.slice A xs.length c) xs) : Kd.C (Kd.slice 5 (Kd.int .u8)) w A xs.length xs := by
 obtain ⟨A', c', e, _, hr⟩ := Kd.R_reads h
 cases e
 exact hr
end Go.Proofs.Ytmbnjgnmblgjoaa.Man
end
section
namespace Go.Proofs.Ytmbnjgnmblgjoaa.Man
open Go.RowKit Go.Proofs.YtmbnjgnmblgjoaaW.PrintWords Go.Proofs.YtmbnjgnmblgjoaaW.PrintLast
set_option linter.unusedVariables false
set_option linter.unusedSimpArgs false
set_option maxRecDepth 100000
def appE (m : Int) (xs ys : List Int) : Int := if (ys.length : Int) ≤ m - (xs.length : Int) then 0 else 12
def appL (m : Int) (xs ys : List Int) : List Int := if (ys.length : Int) ≤ m - (xs.length : Int) then xs ++ ys else xs
def cutE (xs : List Int) (n : Int) : Int := if n < 0 ∨ (xs.length : Int) < n then 1 else 0
def cutL (xs : List Int) (n : Int) : List Int := if n < 0 ∨ (xs.length : Int) < n then xs else xs.take n.toNat
def cutS (xs : List Int) (s n : Int) : Int := if n < 0 ∨ (xs.length : Int) < n then s else n
def crE (k : Int) : Int := if k < 0 then 1 else 0
def crL (xs : List Int) (s k : Int) : List Int := if k < 0 then xs else xs.take (s + min k ((xs.length : Int) - s)).toNat
def crS (xs : List Int) (s k : Int) : Int := if k < 0 then s else s + min k ((xs.length : Int) - s)
theorem append_any {w : World} {base B : Nat} {v : Value} {xs ys : List Int} {s m : Int} (h : DiskS w base B v xs s m) (A : Option Addr) (c : Nat) (HR : Kd.C (Kd.int .u8) w A ys.length ys) : Calls Try.prog 29 #[.pointer (some ⟨B, 0, none⟩), .slice A ys.length c] w fun e w' => e = .returned (.int .i64 (appE m xs ys)) ∧ ∃ v', DiskS w' base B v' (appL m xs ys) s m ∧ DStep w w' B v v' := by
 unfold appE appL
 by_cases hr : (ys.length : Int) ≤ m - (xs.length : Int)
 · rw [if_pos hr, if_pos hr]; exact append_is h A c HR hr
 · rw [if_neg hr, if_neg hr]
   refine (append_full h A ys.length c HR.2.1 hr).mono ?_
   rintro e w' ⟨rfl, n, rfl⟩
   exact ⟨rfl, v, h.below (pw_below_drewN (Below.refl _ _) n) (Nat.le_refl _), DStep.drewN _ _ _ _⟩
theorem refAppend_any {w : World} {base B : Nat} {v : Value} {xs ys : List Int} {s m : Int} (h : RefS w base B v xs s m) (A : Option Addr) (c : Nat) (HR : Kd.C (Kd.int .u8) w A ys.length ys) : Calls Try.prog 30 #[.pointer (some ⟨B, 0, none⟩), .slice A ys.length c] w fun e w' => e = .returned (.int .i64 (appE m xs ys)) ∧ ∃ v', RefS w' base B v' (appL m xs ys) s m ∧ DStep w w' B v v' := by
 unfold appE appL
 by_cases hr : (ys.length : Int) ≤ m - (xs.length : Int)
 · rw [if_pos hr, if_pos hr]; exact refAppend_is h A c HR hr
 · rw [if_neg hr, if_neg hr]
   refine (refAppend_full h A ys.length c HR.2.1 hr).mono ?_
   rintro e w' ⟨rfl, n, rfl⟩
   exact ⟨rfl, v, h.below (pw_below_drewN (Below.refl _ _) n) (Nat.le_refl _), DStep.drewN _ _ _ _⟩
theorem crash_any {w : World} {base B : Nat} {v : Value} {xs : List Int} {s m : Int} (h : DiskS w base B v xs s m) (k : Int) (hk : k ≤ 9223372036854775807) : Calls Try.prog 33 #[.pointer (some ⟨B, 0, none⟩), .int .i64 k] w fun e w' => e = .returned (.int .i64 (crE k)) ∧ ∃ v', DiskS w' base B v' (crL xs s k) (crS xs s k) m ∧ DStep w w' B v v' := by
 unfold crE crL crS
 by_cases hr : k < 0
 · rw [if_pos hr, if_pos hr, if_pos hr]
   refine (crash_bad h k hr).mono ?_
   rintro e w' ⟨rfl, rfl⟩
   exact ⟨rfl, v, h, DStep.refl _ _ _⟩
 · rw [if_neg hr, if_neg hr, if_neg hr]
   have h1 := h.s0
   have h2 := h.s1
   obtain ⟨n, hn⟩ : ∃ n : Nat, s + min k ((xs.length : Int) - s) = (n : Int) := ⟨(s + min k ((xs.length : Int) - s)).toNat, by omega⟩
   rw [hn, Int.toNat_natCast]
   exact crash_is h k (by omega) hk n hn.symm
theorem refCrash_any {w : World} {base B : Nat} {v : Value} {xs : List Int} {s m : Int} (h : RefS w base B v xs s m) (k : Int) (hk : k ≤ 9223372036854775807) : Calls Try.prog 34 #[.pointer (some ⟨B, 0, none⟩), .int .i64 k] w fun e w' => e = .returned (.int .i64 (crE k)) ∧ ∃ v', RefS w' base B v' (crL xs s k) (crS xs s k) m ∧ DStep w w' B v v' := by
 unfold crE crL crS
 by_cases hr : k < 0
 · rw [if_pos hr, if_pos hr, if_pos hr]
   refine (refCrash_bad B k hr).mono ?_
   rintro e w' ⟨rfl, rfl⟩
   exact ⟨rfl, v, h, DStep.refl _ _ _⟩
 · rw [if_neg hr, if_neg hr, if_neg hr]
   have h1 := h.s0
   have h2 := h.s1
   obtain ⟨n, hn⟩ : ∃ n : Nat, s + min k ((xs.length : Int) - s) = (n : Int) := ⟨(s + min k ((xs.length : Int) - s)).toNat, by omega⟩
   rw [hn, Int.toNat_natCast]
   exact refCrash_is h k (by omega) hk n hn.symm
end Go.Proofs.Ytmbnjgnmblgjoaa.Man
end
section
namespace Go.Proofs.Ytmbnjgnmblgjoaa.Man
open Go.RowKit Go.Proofs.YtmbnjgnmblgjoaaW.PrintWords Go.Proofs.YtmbnjgnmblgjoaaW.PrintLast Go.Proofs.YtmbnjgnmblgjoaaW.PrintMore
set_option linter.unusedVariables false
set_option linter.unusedSimpArgs false
set_option maxRecDepth 100000
def WrAt (w : World) (B : Nat) (v : Value) : Prop := w.heap[B]? = some (.cells #[v] 129 (0, 0))
theorem WrAt.c0 {w : World} {B : Nat} {v : Value} (k : WrAt w B v) : w.cell? ⟨B, 0, none⟩ = some v := by simp [World.cell?, show w.heap[B]? = _ from k]
theorem WrAt.f {w : World} {B : Nat} {v : Value} (k : WrAt w B v) : w.frozen? ⟨B, 0, none⟩ = false := by simp [World.frozen?, show w.heap[B]? = _ from k]
theorem WrAt.lt {w : World} {B : Nat} {v : Value} (k : WrAt w B v) : B < w.heap.size := (Array.getElem?_eq_some_iff.1 k).1
theorem WrAt.put {w : World} {B : Nat} {v : Value} (k : WrAt w B v) (v' : Value) : WrAt (w.setCell ⟨B, 0, none⟩ v') B v' := by
 unfold WrAt World.setCell
 simp [Array.getElem?_modify, show w.heap[B]? = _ from k]
theorem WrAt.below {w w1 : World} {B m : Nat} {v : Value} (k : WrAt w B v) (h : Below m w w1) (hm : w.heap.size ≤ m) : WrAt w1 B v := ((h.mono hm).block _ k.lt).trans k
theorem C_moveK {K : IntKind} {w w1 : World} {A : Option Addr} {n : Nat} {xs : List Int} (hr : Kd.C (Kd.int K) w A n xs) (hm : ∀ ad, A = some ad → w1.heap[ad.block]? = w.heap[ad.block]?) : Kd.C (Kd.int K) w1 A n xs := by
 have hR := Kd.reads_of_C (enc := Value.int K) (d := (0 : Int)) (h1 := fun _ => rfl) hr
 refine Kd.C_of_reads (d := (0 : Int)) (h1 := fun _ => rfl) ⟨hR.1, hR.2.1, fun h0 => ?_⟩
 obtain ⟨ad, e, hc⟩ := hR.2.2 h0
 refine ⟨ad, e, fun j hj => ?_⟩
 rw [← hc j hj]
 have hb : (ad.add j).block = ad.block := by unfold Addr.add; split <;> rfl
 unfold World.cell?
 rw [hb, hm ad e]
structure WrS (w : World) (base B : Nat) (xs : List Int) : Prop where
 ex : ∃ v, WrAt w B v ∧ BR w base v xs
theorem WrS.lt {w : World} {base B : Nat} {xs : List Int} (h : WrS w base B xs) : B < w.heap.size := by
 obtain ⟨v, k, _⟩ := h.ex
 exact k.lt
theorem BR.set {w : World} {base B k : Nat} {v u : Value} {xs : List Int} (h : BR w base v xs) (hB : B < base) : BR (w.setCell ⟨B, k, none⟩ u) base v xs := by
 refine Kd.R_mono (Kd.R_grown (Kd.R_bound h) (grownBy_set w B k u (World.grownBy.refl w _)) (fun j hj e => ?_)) (fun _ _ => trivial)
 have h1 := hj.2.1
 cases e
 omega
theorem vbs_take_succ (l : List Int) (i : Nat) (h : i < l.length) : vbs (l.take (i + 1)) = vbs (l.take i) ++ vb (l.getD i 0).toNat := by
 rw [List.take_succ_eq_append_getElem h, vbs_snoc, getD_lt h]
theorem vbs_take_le (l : List Int) (i : Nat) : (vbs (l.take i)).length ≤ (vbs l).length := by
 have h : vbs l = vbs (l.take i) ++ vbs (l.drop i) := by
  conv => lhs; rw [← List.take_append_drop i l]
  unfold vbs
  rw [List.flatMap_append]
 rw [h, List.length_append]
 omega
end Go.Proofs.Ytmbnjgnmblgjoaa.Man
end
section
namespace Go.Proofs.Ytmbnjgnmblgjoaa.Man
open Go.RowKit Go.Proofs.YtmbnjgnmblgjoaaW.PrintWords Go.Proofs.YtmbnjgnmblgjoaaW.PrintLast Go.Proofs.YtmbnjgnmblgjoaaW.PrintMore
set_option linter.unusedVariables false
set_option linter.unusedSimpArgs false
set_option maxRecDepth 100000
def heldF (xs : List Int) : List Int × Int × Bool :=
 if (openF xs 0).2.2 ≠ 0 then ([], 0, false)
 else if (openF xs 0).2.1 ≠ (xs.length : Int) then ([], 0, false)
 else if (getF (openF xs 0).1 0).2.2 ≠ 0 then ([], 0, false)
 else ((openF xs 0).1.drop (getF (openF xs 0).1 0).2.1.toNat, (getF (openF xs 0).1 0).1, true)
theorem heldF_le (xs : List Int) : (heldF xs).1.length ≤ xs.length := by
 unfold heldF
 split <;> try simp
 split <;> try simp
 split <;> try simp
 have : (openF xs 0).1.length ≤ xs.length := by
  unfold openF
  split <;> try simp
  split <;> try simp
  split <;> try simp
  split <;> try simp
  unfold mid
  rw [List.length_drop, List.length_take]
  omega
 omega
theorem mid_bytes (b : List Int) (i j : Int) (h : areBytesN b = true) : areBytesN (mid b i j) = true := areBytesN_drop (areBytesN_take h _) _
theorem openF_bytes (xs : List Int) (at_ : Int) (h : areBytesN xs = true) : areBytesN (openF xs at_).1 = true := by
 unfold openF
 split <;> try rfl
 split <;> try rfl
 split <;> try rfl
 split <;> try rfl
 exact mid_bytes _ _ _ h
def HeldAt (w : World) (B : Nat) (v0 v1 v2 : Value) : Prop := w.heap[B]? = some (.cells #[v0, v1, v2] 165 (0, 0))
theorem HeldAt.c0 {w : World} {B : Nat} {v0 v1 v2 : Value} (k : HeldAt w B v0 v1 v2) : w.cell? ⟨B, 0, none⟩ = some v0 := by simp [World.cell?, show w.heap[B]? = _ from k]
theorem HeldAt.c1 {w : World} {B : Nat} {v0 v1 v2 : Value} (k : HeldAt w B v0 v1 v2) : w.cell? ⟨B, 1, none⟩ = some v1 := by simp [World.cell?, show w.heap[B]? = _ from k]
theorem HeldAt.c2 {w : World} {B : Nat} {v0 v1 v2 : Value} (k : HeldAt w B v0 v1 v2) : w.cell? ⟨B, 2, none⟩ = some v2 := by simp [World.cell?, show w.heap[B]? = _ from k]
theorem HeldAt.f {w : World} {B : Nat} {v0 v1 v2 : Value} (k : HeldAt w B v0 v1 v2) (j : Nat) : w.frozen? ⟨B, j, none⟩ = false := by simp [World.frozen?, show w.heap[B]? = _ from k]
theorem HeldAt.lt {w : World} {B : Nat} {v0 v1 v2 : Value} (k : HeldAt w B v0 v1 v2) : B < w.heap.size := (Array.getElem?_eq_some_iff.1 k).1
theorem HeldAt.put {w : World} {B : Nat} {v0 v1 v2 : Value} (k : HeldAt w B v0 v1 v2) (u0 u1 u2 : Value) : HeldAt (((w.setCell ⟨B, 0, none⟩ u0).setCell ⟨B, 1, none⟩ u1).setCell ⟨B, 2, none⟩ u2) B u0 u1 u2 := by
 unfold HeldAt World.setCell
 simp [Array.getElem?_modify, show w.heap[B]? = _ from k]
theorem HeldAt.below {w w1 : World} {B m : Nat} {v0 v1 v2 : Value} (k : HeldAt w B v0 v1 v2) (h : Below m w w1) (hm : B < m) : HeldAt w1 B v0 v1 v2 := (h.block B hm).trans k
set_option maxHeartbeats 8000000 in
theorem look_is {w : World} {base B : Nat} {v : Value} {xs : List Int} {s m : Int} (h : DiskS w base B v xs s m) (hB : areBytesN xs = true) :
 Calls Try.prog 152 #[.pointer (some ⟨B, 0, none⟩)] w fun e w' => ∃ A c, e = .returned (.agg #[.slice A (heldF xs).1.length c, .int .u64 (heldF xs).2.1, .bool (heldF xs).2.2]) ∧ Kd.C (Kd.int .u8) w' A (heldF xs).1.length (heldF xs).1 ∧ Below w.heap.size w w' := by
 have hm : (xs.length : Int) ≤ 262144 := by have := h.len; have := h.m1; omega
 obtain ⟨hv, hhv⟩ : ∃ hv, heldF xs = hv := ⟨_, rfl⟩
 rw [hhv]
 unfold heldF at hhv
 have hob := openF_bytes xs 0 hB
 have ho := fun A c (W : World) hr hc => open_any A c xs 0 W hr hc hB (by omega)
 obtain ⟨⟨b, nx, er⟩, hop⟩ : ∃ r, openF xs 0 = r := ⟨_, rfl⟩
 rw [hop] at hhv hob ho
 simp only at hhv hob ho
 have hg := fun A c (W : World) hr hc => get_any A c b 0 W hr hc hob
 have hgr := getF_range b 0 hob
 obtain ⟨⟨g, at_, eg⟩, hge⟩ : ∃ r, getF b 0 = r := ⟨_, rfl⟩
 rw [hge] at hhv hg hgr
 simp only at hhv hg hgr
 have hbe : Below w.heap.size w (w.alloc (.cells #[.slice none 0 0, .int .u64 0, .bool false] 165)) := (Below.refl _ _).alloc (Nat.le_refl _) _
 have H := Lib.hid (h.below hbe (Nat.le_refl _))
 have HE := Lib.hid hbe
 have HK : Hid (HeldAt (w.alloc (.cells #[.slice none 0 0, .int .u64 0, .bool false] 165)) w.heap.size (.slice none 0 0) (.int .u64 0) (.bool false)) := Lib.hid (World.alloc_heap_new w _)
 have hsz : (w.alloc (.cells #[.slice none 0 0, .int .u64 0, .bool false] 165)).heap.size = w.heap.size + 1 := World.size_alloc _ _
 have HZ := Lib.hid hsz
 have HO := Lib.hid ho
 have HG := Lib.hid hg
 clear h hbe ho hg hB hop hge hsz
 have hnil : ∀ W : World, Kd.C (Kd.int .u8) W none ([] : List Int).length [] := fun W => C_nil W .u8
 have HN := Lib.hid hnil
 have HOB := Lib.hid hob
 clear hnil hob
 have HR := Lib.hid hgr
 have HCUT : Hid (eg = 0 → ∀ A c, b.length ≤ c → ∃ A' : Option Addr, (∀ W : World, (Instr.slice 27 (.slice A b.length c) (some (.int .i64 at_)) none none).run Try.prog W = .ok (.slice A' (b.drop at_.toNat).length (c - at_.toNat)) W) ∧
  (∀ w : World, Kd.C (Kd.int .u8) w A b.length b → Kd.C (Kd.int .u8) w A' (b.drop at_.toNat).length (b.drop at_.toNat))) := Lib.hid fun he A c hc => by
  obtain ⟨i0, hi0, hsz0⟩ : ∃ i0, Try.prog.info? 5 = some i0 ∧ i0.size = 1 := by obtain ⟨i0, h, _, h2, _⟩ := info_parts info_u8; exact ⟨i0, h, h2⟩
  obtain ⟨_, q1, q2, _⟩ := hgr he
  obtain ⟨A', p1, p2, _⟩ := print_drop_of (P := Try.prog) (Value.int .u8) 0 27 5 .i64 Try.underlying27 hi0 hsz0 A c b at_ q1 q2 hc
  exact ⟨A', p1, fun w h => Kd.C_of_reads (h1 := fun _ => rfl) (p2 w (Kd.reads_of_C h))⟩
 clear hgr
 by_cases h1 : er ≠ 0 ∨ nx ≠ (xs.length : Int)
 · have hh : hv = ([], 0, false) := by
    rw [← hhv]
    by_cases q : er ≠ 0
    · rw [if_pos q]
    · rw [if_neg q, if_pos (by omega)]
   subst hh
   clear hhv
   rcases (show er ≠ 0 ∨ (er = 0 ∧ nx ≠ (xs.length : Int)) by omega) with q | ⟨rfl, q⟩
   all_goals
    first | (have q1 : (er != 0) = true := (by simpa using q)) | (have q1 : (nx != (xs.length : Int)) = true := (by simpa using q))
    go_enter Try.func152, Try.ntmps152
    go_wp2_with (first
     | (go_at_call 38; refine (bytes_is H.out).mono ?_; rintro e w1 ⟨u, rfl, hr, hb⟩; obtain ⟨A1, k1, rfl, hk1, hC1⟩ := Kd.R_reads hr; have HC1 := Lib.hid hC1; have HB1 := Lib.hid (HE.out.trans (hb.mono HE.out.size)); have HK1 := Lib.hid (HK.out.below hb (by rw [HZ.out]; omega)); have H1 := Lib.hid (H.out.below hb (Nat.le_refl _)); clear hr hb hC1)
     | (go_at_call 22; refine (HO.out A1 k1 _ HC1.out hk1).mono ?_; rintro e w2 ⟨u, rfl, hr, hb⟩; obtain ⟨A2, k2, rfl, hk2, hC2⟩ := BR.len hr; have HC2 := Lib.hid hC2; have HR2 := Lib.hid hr; have HB2 := Lib.hid (HB1.out.trans (hb.mono HB1.out.size)); have hk2' := HK1.out.below hb HK1.out.lt; have HK2 := Lib.hid hk2'; have H2 := Lib.hid (H1.out.below hb (Nat.le_refl _)); have c0 := hk2'.c0; have c1 := hk2'.c1; have c2 := hk2'.c2; have f0 := hk2'.f 0; have f1 := hk2'.f 1; have f2 := hk2'.f 2; clear hr hb hC2 hk2')
     | (go_at_call 39; refine (len_is H2.out).mono ?_; rintro e w' ⟨rfl, rfl⟩))
    have HP := Lib.hid (HK2.out.put (.slice none 0 0) (.int .u64 0) (.bool false))
    have d0 := HP.out.c0
    have d1 := HP.out.c1
    have d2 := HP.out.c2
    refine bodyPost_ret (v := .agg #[.slice none 0 0, .int .u64 0, .bool false]) (by simp [results, Try.results152, go_sem, d0, d1, d2]) rfl ?_
    exact ⟨none, 0, rfl, HN.out _, ((HB2.out.setCell (Nat.le_refl _) _).setCell (Nat.le_refl _) _).setCell (Nat.le_refl _) _⟩
 obtain ⟨rfl, rfl⟩ : er = 0 ∧ nx = (xs.length : Int) := by omega
 rw [if_neg (by simp), if_neg (by simp)] at hhv
 clear h1
 by_cases h3 : eg ≠ 0
 · rw [if_pos h3] at hhv
   subst hhv
   have q1 : (eg != 0) = true := by simpa using h3
   go_enter Try.func152, Try.ntmps152
   go_wp2_with (first
    | (go_at_call 38; refine (bytes_is H.out).mono ?_; rintro e w1 ⟨u, rfl, hr, hb⟩; obtain ⟨A1, k1, rfl, hk1, hC1⟩ := Kd.R_reads hr; have HC1 := Lib.hid hC1; have HB1 := Lib.hid (HE.out.trans (hb.mono HE.out.size)); have HK1 := Lib.hid (HK.out.below hb (by rw [HZ.out]; omega)); have H1 := Lib.hid (H.out.below hb (Nat.le_refl _)); clear hr hb hC1)
    | (go_at_call 22; refine (HO.out A1 k1 _ HC1.out hk1).mono ?_; rintro e w2 ⟨u, rfl, hr, hb⟩; obtain ⟨A2, k2, rfl, hk2, hC2⟩ := BR.len hr; have HC2 := Lib.hid hC2; have HR2 := Lib.hid hr; have HB2 := Lib.hid (HB1.out.trans (hb.mono HB1.out.size)); have hk2' := HK1.out.below hb HK1.out.lt; have HK2 := Lib.hid hk2'; have H2 := Lib.hid (H1.out.below hb (Nat.le_refl _)); have c0 := hk2'.c0; have c1 := hk2'.c1; have c2 := hk2'.c2; have f0 := hk2'.f 0; have f1 := hk2'.f 1; have f2 := hk2'.f 2; clear hr hb hC2 hk2')
    | (go_at_call 39; refine (len_is H2.out).mono ?_; rintro e w' ⟨rfl, rfl⟩)
    | (go_at_call 91; refine (HG.out A2 k2 _ HC2.out hk2).mono ?_; rintro e w' ⟨rfl, rfl⟩))
   have HP := Lib.hid (HK2.out.put (.slice none 0 0) (.int .u64 0) (.bool false))
   have d0 := HP.out.c0
   have d1 := HP.out.c1
   have d2 := HP.out.c2
   refine bodyPost_ret (v := .agg #[.slice none 0 0, .int .u64 0, .bool false]) (by simp [results, Try.results152, go_sem, d0, d1, d2]) rfl ?_
   exact ⟨none, 0, rfl, HN.out _, ((HB2.out.setCell (Nat.le_refl _) _).setCell (Nat.le_refl _) _).setCell (Nat.le_refl _) _⟩
 rw [if_neg h3] at hhv
 obtain rfl : eg = 0 := by omega
 subst hhv
 have HCU := Lib.hid (HCUT.out rfl)
 clear HCUT
 obtain ⟨dr, hdr⟩ : ∃ dr, b.drop at_.toNat = dr := ⟨_, rfl⟩
 rw [hdr] at HCU
 rw [hdr]
 clear hdr
 go_enter Try.func152, Try.ntmps152
 go_wp2_with (first
  | (go_at_call 38; refine (bytes_is H.out).mono ?_; rintro e w1 ⟨u, rfl, hr, hb⟩; obtain ⟨A1, k1, rfl, hk1, hC1⟩ := Kd.R_reads hr; have HC1 := Lib.hid hC1; have HB1 := Lib.hid (HE.out.trans (hb.mono HE.out.size)); have HK1 := Lib.hid (HK.out.below hb (by rw [HZ.out]; omega)); have H1 := Lib.hid (H.out.below hb (Nat.le_refl _)); clear hr hb hC1)
  | (go_at_call 22; refine (HO.out A1 k1 _ HC1.out hk1).mono ?_; rintro e w2 ⟨u, rfl, hr, hb⟩; obtain ⟨A2, k2, rfl, hk2, hC2⟩ := BR.len hr; have HC2 := Lib.hid hC2; have HR2 := Lib.hid hr; have HB2 := Lib.hid (HB1.out.trans (hb.mono HB1.out.size)); have hk2' := HK1.out.below hb HK1.out.lt; have HK2 := Lib.hid hk2'; have H2 := Lib.hid (H1.out.below hb (Nat.le_refl _)); have c0 := hk2'.c0; have c1 := hk2'.c1; have c2 := hk2'.c2; have f0 := hk2'.f 0; have f1 := hk2'.f 1; have f2 := hk2'.f 2; clear hr hb hC2 hk2'; obtain ⟨A3, hcut, hAc⟩ := HCU.out A2 k2 hk2; have HAC := Lib.hid hAc; clear hAc)
  | (go_at_call 39; refine (len_is H2.out).mono ?_; rintro e w' ⟨rfl, rfl⟩)
  | (go_at_call 91; refine (HG.out A2 k2 _ HC2.out hk2).mono ?_; rintro e w' ⟨rfl, rfl⟩))
 have HP := Lib.hid (HK2.out.put (.slice A3 dr.length (k2 - at_.toNat)) (.int .u64 g) (.bool true))
 have d0 := HP.out.c0
 have d1 := HP.out.c1
 have d2 := HP.out.c2
 refine bodyPost_ret (v := .agg #[.slice A3 dr.length (k2 - at_.toNat), .int .u64 g, .bool true]) (by simp [results, Try.results152, go_sem, d0, d1, d2]) rfl ?_
 exact ⟨A3, _, rfl, HAC.out _ (BR.C (BR.set (BR.set (BR.set HR2.out HK1.out.lt) HK1.out.lt) HK1.out.lt)), ((HB2.out.setCell (Nat.le_refl _) _).setCell (Nat.le_refl _) _).setCell (Nat.le_refl _) _⟩
end Go.Proofs.Ytmbnjgnmblgjoaa.Man
end
section
namespace Go.Proofs.Ytmbnjgnmblgjoaa.Man
open Go.RowKit Go.Proofs.YtmbnjgnmblgjoaaW.PrintWords Go.Proofs.YtmbnjgnmblgjoaaW.PrintLast Go.Proofs.YtmbnjgnmblgjoaaW.PrintMore
set_option linter.unusedVariables false
set_option linter.unusedSimpArgs false
set_option maxRecDepth 100000
def StoreS (w : World) (S BX BY : Nat) : Prop := w.heap[S]? = some (.cells #[.pointer (some ⟨BX, 0, none⟩), .pointer (some ⟨BY, 0, none⟩)] 163 (0, 0))
theorem StoreS.c0 {w : World} {S BX BY : Nat} (k : StoreS w S BX BY) : w.cell? ⟨S, 0, none⟩ = some (.pointer (some ⟨BX, 0, none⟩)) := by simp [World.cell?, show w.heap[S]? = _ from k]
theorem StoreS.c1 {w : World} {S BX BY : Nat} (k : StoreS w S BX BY) : w.cell? ⟨S, 1, none⟩ = some (.pointer (some ⟨BY, 0, none⟩)) := by simp [World.cell?, show w.heap[S]? = _ from k]
theorem StoreS.lt {w : World} {S BX BY : Nat} (k : StoreS w S BX BY) : S < w.heap.size := (Array.getElem?_eq_some_iff.1 k).1
theorem StoreS.move {w w1 : World} {S BX BY : Nat} (k : StoreS w S BX BY) (h : w1.heap[S]? = w.heap[S]?) : StoreS w1 S BX BY := h.trans k
theorem StoreS.below {w w1 : World} {S BX BY m : Nat} (k : StoreS w S BX BY) (h : Below m w w1) (hm : S < m) : StoreS w1 S BX BY := (h.block S hm).trans k
theorem snone_is {w : World} {S BX BY : Nat} (k : StoreS w S BX BY) : Calls Try.prog 113 #[.pointer (some ⟨S, 0, none⟩)] w fun e w' => e = .returned (.bool false) ∧ w = w' := by
 have c0 := k.c0
 clear k
 go_enter Try.func113, Try.ntmps113
 go_wp2
 go_ret
 exact ⟨rfl, rfl⟩
abbrev Held := List Int × Int × Bool
def firstF (x y : Held) : Bool := x.2.2 && (!y.2.2 || decide (y.2.1 ≤ x.2.1))
def newF (x y : Held) : Held × Int := if firstF x y then (x, 1) else if y.2.2 then (y, 0) else (([], 0, false), 0)
theorem first_is {w : World} {P Q : Nat} {u v : Value} {gx gy : Int} {ix iy : Bool} (hx : HeldAt w P u (.int .u64 gx) (.bool ix)) (hy : HeldAt w Q v (.int .u64 gy) (.bool iy)) :
 Calls Try.prog 153 #[.pointer (some ⟨P, 0, none⟩), .pointer (some ⟨Q, 0, none⟩)] w fun e w' => e = .returned (.bool (ix && (!iy || decide (gy ≤ gx)))) ∧ w = w' := by
 have a1 := hx.c1
 have a2 := hx.c2
 have b1 := hy.c1
 have b2 := hy.c2
 clear hx hy
 cases ix
 · go_enter Try.func153, Try.ntmps153
   go_wp2
   go_ret
   exact ⟨rfl, rfl⟩
 cases iy
 · go_enter Try.func153, Try.ntmps153
   go_wp2
   go_ret
   exact ⟨rfl, rfl⟩
 · go_enter Try.func153, Try.ntmps153
   go_wp2
   go_ret
   simp
theorem C_held {w w1 : World} {A : Option Addr} {xs : List Int} {P : Nat} {a : Option Addr} {b c : Nat} {g : Int} {i : Bool} (hr : Kd.C (Kd.int .u8) w A xs.length xs) (hk : HeldAt w P (.slice a b c) (.int .u64 g) (.bool i)) (hm : ∀ k, k ≠ P → w1.heap[k]? = w.heap[k]?) : Kd.C (Kd.int .u8) w1 A xs.length xs := by
 have hR := Kd.reads_of_C (enc := Value.int .u8) (d := (0 : Int)) (h1 := fun _ => rfl) hr
 refine Kd.C_of_reads (d := (0 : Int)) (h1 := fun _ => rfl) ⟨hR.1, hR.2.1, fun h0 => ?_⟩
 obtain ⟨ad, e, hc⟩ := hR.2.2 h0
 have hb : ∀ j, (ad.add j).block = ad.block := fun j => by unfold Addr.add; split <;> rfl
 have hne : ad.block ≠ P := fun he => by
  have h := hc 0 h0
  unfold World.cell? at h
  rw [hb, he, show w.heap[P]? = _ from hk] at h
  simp only at h
  generalize (ad.add 0).off = q at h
  rcases q with _ | _ | _ | q <;> simp at h
 refine ⟨ad, e, fun j hj => ?_⟩
 rw [← hc j hj]
 unfold World.cell?
 rw [hb, hm _ hne]
def set3 (w : World) (B : Nat) (u0 u1 u2 : Value) : World := ((w.setCell ⟨B, 0, none⟩ u0).setCell ⟨B, 1, none⟩ u1).setCell ⟨B, 2, none⟩ u2
theorem set3_heap (w : World) (B : Nat) (u0 u1 u2 : Value) (k : Nat) (h : k ≠ B) : (set3 w B u0 u1 u2).heap[k]? = w.heap[k]? := by
 unfold set3
 rw [Below.heap_setCell _ _ _ _ (fun e => h e), Below.heap_setCell _ _ _ _ (fun e => h e), Below.heap_setCell _ _ _ _ (fun e => h e)]
theorem set3_below {n : Nat} {w w1 : World} (h : Below n w w1) (B : Nat) (hB : n ≤ B) (u0 u1 u2 : Value) : Below n w (set3 w1 B u0 u1 u2) := ((h.setCell hB _).setCell hB _).setCell hB _
def newR.T : Bool × List (List Nat × List Nat) := (true, [([], []), ([0], [0]), ([1], [1]), ([2], [2]), ([3], [3]), ([4], [4]), ([], []), ([6], [6]), ([7], [7]), ([8], [8]), ([9], [9]), ([10, 5], [10]), ([], []), ([], []), ([12, 5, 11, 0, 1, 2, 3, 4, 5, 12, 13], [5, 12]), ([13, 11, 14, 0, 1, 2, 3, 4, 5, 6, 7, 8, 9, 10, 11, 12, 13, 14], [11, 13])])
def newR.B : List Nat := [0, 1, 3, 7, 15, 31, 0, 64, 192, 448, 960, 2047, 0, 0, 16383, 32767]
theorem newR.tab : rtab .any (opsOf Try.f114 1) = newR.T := by kernel_rfl
theorem newR.bits : waitsOk newR.T.2 newR.B = true := by kernel_rfl
structure NR (w : World) (S BX BY : Nat) (hx hy : Held) (A1 : Option Addr) (c1 : Nat) (A2 : Option Addr) (c2 P4 P5 : Nat) (w' : World) : Prop where
 st : StoreS w' S BX BY
 x : Kd.C (Kd.int .u8) w' A1 hx.1.length hx.1
 y : Kd.C (Kd.int .u8) w' A2 hy.1.length hy.1
 k4 : HeldAt w' P4 (.slice none 0 0) (.int .u64 0) (.bool false)
 k5 : HeldAt w' P5 (.slice none 0 0) (.int .u64 0) (.bool false)
 ne : P4 ≠ P5
 p4 : w.heap.size ≤ P4
 p5 : w.heap.size ≤ P5
 be : Below w.heap.size w w'
def hval (A : Option Addr) (c : Nat) (h : Held) : Value := .agg #[.slice A h.1.length c, .int .u64 h.2.1, .bool h.2.2]
set_option maxHeartbeats 8000000 in
theorem newest_is {w : World} {S base base' BX BY : Nat} {v u : Value} {xs ys : List Int} {s m s' m' : Int} (hS : StoreS w S BX BY) (hx : DiskS w base BX v xs s m) (hy : DiskS w base' BY u ys s' m') (hbx : areBytesN xs = true) (hby : areBytesN ys = true) :
 Calls Try.prog 114 #[.pointer (some ⟨S, 0, none⟩)] w fun e w' => ∃ A c, e = .returned (.tuple #[hval A c (newF (heldF xs) (heldF ys)).1, .int .i64 (newF (heldF xs) (heldF ys)).2]) ∧ Kd.C (Kd.int .u8) w' A (newF (heldF xs) (heldF ys)).1.1.length (newF (heldF xs) (heldF ys)).1.1 ∧ Below w.heap.size w w' := by
 have hl := hS.lt
 obtain ⟨nw, hnw⟩ : ∃ nw, newF (heldF xs) (heldF ys) = nw := ⟨_, rfl⟩
 rw [hnw]
 have HNW := Lib.hid hnw
 clear hnw
 obtain ⟨w0, hw0⟩ : ∃ w0, w0 = w.alloc (.cells #[.slice none 0 0, .int .u64 0, .bool false] 165) := ⟨_, rfl⟩
 have hbe : Below w.heap.size w w0 := by rw [hw0]; exact (Below.refl _ _).alloc (Nat.le_refl _) _
 have hk0 : HeldAt w0 w.heap.size (.slice none 0 0) (.int .u64 0) (.bool false) := by rw [hw0]; exact World.alloc_heap_new w _
 have hz0 : w0.heap.size = w.heap.size + 1 := by rw [hw0]; exact World.size_alloc _ _
 have HS := Lib.hid (hS.below hbe hl)
 have HX := Lib.hid (hx.below hbe (Nat.le_refl _))
 have HY := Lib.hid (hy.below hbe (Nat.le_refl _))
 have HBX := Lib.hid hbx
 have HBY := Lib.hid hby
 have HK0 := Lib.hid hk0
 have HB0 := Lib.hid hbe
 have HZ0 := Lib.hid hz0
 have HW0 := Lib.hid hw0
 clear hS hx hy hbx hby hbe hk0 hz0
 go_enter Try.func114, Try.ntmps114
 go_upto_region 1 with (fail)
 rw [← hw0]
 clear hw0
 have hS0 : w0.drew.cell? ⟨S, 0, none⟩ = some (.pointer (some ⟨BX, 0, none⟩)) ∧ w0.drew.cell? ⟨S, 1, none⟩ = some (.pointer (some ⟨BY, 0, none⟩)) := ⟨HS.out.c0, HS.out.c1⟩
 have HBD : Hid (Below w0.heap.size w0 w0.drew) := Lib.hid (Below.refl _ _).drew
 refine start_ (n := 16) (S := fun w' => w'.cell? ⟨S, 0, none⟩ = some (.pointer (some ⟨BX, 0, none⟩)) ∧ w'.cell? ⟨S, 1, none⟩ = some (.pointer (some ⟨BY, 0, none⟩))) (ds := []) #[false, false, false, false, false, false, false, false, false, false, false, false, false, false, false, false] (by kernel_rfl) rfl rfl hS0 (fun hHeld => ?_); refine with_tabW newR.tab newR.bits (fun HT_ HW_ => ?_)
 refine pure_ (i := 0) (N := (some 7)) (v := ?_) (a' := ?_) #[true, false, false, false, false, false, false, false, false, false, false, false, false, false, false, false] rfl rfl (any_of HT_.out (by kernel_rfl)) (fun _ _ _ h => h) (Or.inl ⟨by rfl, ?_⟩) ?_ ?_
 rotate_left
 · intro w'
   go_simp
   with_reducible rfl
 rotate_left
 · simp only [Act.put, sA_, sB_, sC_, i64_w, i32_w]
   rfl
 refine pure_ (i := 1) (N := (some 8)) (v := ?_) (a' := ?_) #[true, true, false, false, false, false, false, false, false, false, false, false, false, false, false, false] rfl rfl (any_of HT_.out (by kernel_rfl)) (fun _ _ _ h => h) (Or.inl ⟨by rfl, ?_⟩) ?_ ?_
 rotate_left
 · intro w'
   go_simp
   with_reducible rfl
 rotate_left
 · simp only [Act.put, sA_, sB_, sC_, i64_w, i32_w]
   rfl
 refine pure_ (i := 2) (N := (some 9)) (v := ?_) (a' := ?_) #[true, true, true, false, false, false, false, false, false, false, false, false, false, false, false, false] rfl rfl (any_of HT_.out (by kernel_rfl)) (fun _ _ _ h => h) (Or.inl ⟨by rfl, ?_⟩) ?_ ?_
 rotate_left
 · intro w'
   go_simp
   with_reducible rfl
 rotate_left
 · simp only [Act.put, sA_, sB_, sC_, i64_w, i32_w]
   rfl
 refine pure_ (i := 3) (N := (some 10)) (v := ?_) (a' := ?_) #[true, true, true, true, false, false, false, false, false, false, false, false, false, false, false, false] rfl rfl (any_of HT_.out (by kernel_rfl)) (fun _ _ _ h => h) (Or.inl ⟨by rfl, ?_⟩) ?_ ?_
 rotate_left
 · intro w'
   go_simp
   with_reducible rfl
 rotate_left
 · simp only [Act.put, sA_, sB_, sC_, i64_w, i32_w]
   rfl
 refine take_ (i := 4) (N := (some 11)) (v := ?_) (a' := ?_) #[true, true, true, true, true, false, false, false, false, false, false, false, false, false, false, false] rfl rfl (take_ofW HT_.out HW_.out (by kernel_rfl)) (fun _ _ _ h => h) (Or.inl ⟨by rfl, ?_⟩) hHeld ?_ ?_
 rotate_left
 · rintro w' ⟨s0, s1⟩
   go_simp
   with_reducible rfl
 rotate_left
 · simp only [Act.put, sA_, sB_, sC_, i64_w, i32_w]
   rfl
 refine pure_ (i := 6) (N := (some 13)) (v := ?_) (a' := ?_) #[true, true, true, true, true, false, true, false, false, false, false, false, false, false, false, false] rfl rfl (any_of HT_.out (by kernel_rfl)) (fun _ _ _ h => h) (Or.inl ⟨by rfl, ?_⟩) ?_ ?_
 rotate_left
 · intro w'
   go_simp
   with_reducible rfl
 rotate_left
 · simp only [Act.put, sA_, sB_, sC_, i64_w, i32_w]
   rfl
 refine pure_ (i := 7) (N := (some 14)) (v := ?_) (a' := ?_) #[true, true, true, true, true, false, true, true, false, false, false, false, false, false, false, false] rfl rfl (any_of HT_.out (by kernel_rfl)) (fun _ _ _ h => h) (Or.inl ⟨by rfl, ?_⟩) ?_ ?_
 rotate_left
 · intro w'
   go_simp
   with_reducible rfl
 rotate_left
 · simp only [Act.put, sA_, sB_, sC_, i64_w, i32_w]
   rfl
 refine pure_ (i := 8) (N := (some 15)) (v := ?_) (a' := ?_) #[true, true, true, true, true, false, true, true, true, false, false, false, false, false, false, false] rfl rfl (any_of HT_.out (by kernel_rfl)) (fun _ _ _ h => h) (Or.inl ⟨by rfl, ?_⟩) ?_ ?_
 rotate_left
 · intro w'
   go_simp
   with_reducible rfl
 rotate_left
 · simp only [Act.put, sA_, sB_, sC_, i64_w, i32_w]
   rfl
 refine pure_ (i := 9) (N := (some 16)) (v := ?_) (a' := ?_) #[true, true, true, true, true, false, true, true, true, true, false, false, false, false, false, false] rfl rfl (any_of HT_.out (by kernel_rfl)) (fun _ _ _ h => h) (Or.inl ⟨by rfl, ?_⟩) ?_ ?_
 rotate_left
 · intro w'
   go_simp
   with_reducible rfl
 rotate_left
 · simp only [Act.put, sA_, sB_, sC_, i64_w, i32_w]
   rfl
 refine take_ (i := 10) (N := (some 17)) (v := ?_) (a' := ?_) #[true, true, true, true, true, false, true, true, true, true, true, false, false, false, false, false] rfl rfl (take_ofW HT_.out HW_.out (by kernel_rfl)) (fun _ _ _ h => h) (Or.inl ⟨by rfl, ?_⟩) hHeld ?_ ?_
 rotate_left
 · rintro w' ⟨s0, s1⟩
   go_simp
   with_reducible rfl
 rotate_left
 · simp only [Act.put, sA_, sB_, sC_, i64_w, i32_w]
   rfl
 refine join_ (σ := Option Addr × Nat × Option Addr × Nat × Nat × Nat) 2 #[true, true, true, true, true, true, true, true, true, true, true, true, true, true, false, false] (fun s => [(12, hval s.1 s.2.1 (heldF xs)), (18, hval s.2.2.1 s.2.2.2.1 (heldF ys)), (4, .pointer (some ⟨s.2.2.2.2.1, 0, none⟩)), (5, .pointer (some ⟨s.2.2.2.2.2, 0, none⟩))]) (fun s w' => NR w0 S BX BY (heldF xs) (heldF ys) s.1 s.2.1 s.2.2.1 s.2.2.2.1 s.2.2.2.2.1 s.2.2.2.2.2 w') ?_ (fun hcont => ?_)
 rotate_left
 · skip
   refine three_ (i := 5) (j := 12) (k := 13) (Ni := (some 12)) (Nj := (some 4)) (Nk := (some 5)) #[true, true, true, true, true, true, true, true, true, true, true, false, false, false, false, false] #[true, true, true, true, true, false, true, true, true, true, true, false, true, false, false, false] #[true, true, true, true, true, false, true, true, true, true, true, false, false, true, false, false] rfl rfl rfl rfl rfl rfl (three_of HT_.out (by kernel_rfl)) (by decide) (by decide) (by decide) ?_ ?_ ?_
   · skip
     intro K hK
     refine goes_ Try.func152 (by kernel_rfl) rfl #[.pointer (some ⟨BX, 0, none⟩)] (by rfl) rfl rfl (by (try simp only [List.map_toArray, List.map_cons, List.map_nil]); first | done | rfl) ?_
     refine (look_is (HX.out.below HBD.out (Nat.le_refl _)) HBX.out).mono ?_
     rintro e w1 ⟨A5, c5, rfl, hc5, hb⟩
     refine ⟨_, rfl, ?_⟩
     have HC5 := Lib.hid hc5
     clear hc5
     have HBD := Lib.hid (HBD.out.trans (hb.mono HBD.out.size))
     clear hb
     have hst := HS.out.below HBD.out HS.out.lt
     refine hK.out _ _ ⟨hst.c0, hst.c1⟩ (fun hHeld => ?_)
     clear hK K hst
     refine norm_ (a' := ?_) ?_ ?_
     rotate_left
     · show Act.put _ (some 12) _ = _
       simp only [Act.put, sA_, sB_, sC_, i64_w, i32_w]
       rfl
     refine three_ (i := 11) (j := 12) (k := 13) (Ni := (some 18)) (Nj := (some 4)) (Nk := (some 5)) #[true, true, true, true, true, true, true, true, true, true, true, true, false, false, false, false] #[true, true, true, true, true, true, true, true, true, true, true, false, true, false, false, false] #[true, true, true, true, true, true, true, true, true, true, true, false, false, true, false, false] rfl rfl rfl rfl rfl rfl (three_of HT_.out (by kernel_rfl)) (by decide) (by decide) (by decide) ?_ ?_ ?_
     · skip
       intro K hK
       refine goes_ Try.func152 (by kernel_rfl) rfl #[.pointer (some ⟨BY, 0, none⟩)] (by rfl) rfl rfl (by (try simp only [List.map_toArray, List.map_cons, List.map_nil]); first | done | rfl) ?_
       refine (look_is (HY.out.below HBD.out (Nat.le_refl _)) HBY.out).mono ?_
       rintro e w2 ⟨A11, c11, rfl, hc11, hb⟩
       refine ⟨_, rfl, ?_⟩
       have HC11 := Lib.hid hc11
       clear hc11
       have HC5 := Lib.hid (Kd.C_below HC5.out hb)
       have HBD := Lib.hid (HBD.out.trans (hb.mono HBD.out.size))
       clear hb
       have hst := HS.out.below HBD.out HS.out.lt
       refine hK.out _ _ ⟨hst.c0, hst.c1⟩ (fun hHeld => ?_)
       clear hK K hst
       refine norm_ (a' := ?_) ?_ ?_
       rotate_left
       · show Act.put _ (some 18) _ = _
         simp only [Act.put, sA_, sB_, sC_, i64_w, i32_w]
         rfl
       refine two_ (i := 12) (j := 13) (Ni := (some 4)) (Nj := (some 5)) #[true, true, true, true, true, true, true, true, true, true, true, true, true, false, false, false] #[true, true, true, true, true, true, true, true, true, true, true, true, false, true, false, false] rfl rfl rfl rfl (two_of HT_.out (by kernel_rfl)) (by decide) (by decide) ?_ ?_
       · skip
         intro K hK
         refine value_ (w1 := ?_) (v := ?_) (by rfl) rfl ?_ ?_
         rotate_left 2
         · go_simp
           constructor
           · rfl
           · rfl
         have hb : Below w2.heap.size w2 (w2.alloc (.cells #[.slice none 0 0, .int .u64 0, .bool false] 165)) := (Below.refl _ _).alloc (Nat.le_refl _) _
         have HC5 := Lib.hid (Kd.C_below HC5.out hb)
         have HC11 := Lib.hid (Kd.C_below HC11.out hb)
         have HK12 : Hid (HeldAt (w2.alloc (.cells #[.slice none 0 0, .int .u64 0, .bool false] 165)) w2.heap.size (.slice none 0 0) (.int .u64 0) (.bool false)) := Lib.hid (World.alloc_heap_new w2 _)
         have HP12 : Hid (w0.heap.size ≤ w2.heap.size) := Lib.hid HBD.out.size
         have HLT12 : Hid (w2.heap.size < (w2.alloc (.cells #[.slice none 0 0, .int .u64 0, .bool false] 165)).heap.size) := Lib.hid HK12.out.lt
         have HBD := Lib.hid (HBD.out.trans (hb.mono HBD.out.size))
         clear hb
         have hst := HS.out.below HBD.out HS.out.lt
         refine hK.out _ _ ⟨hst.c0, hst.c1⟩ (fun hHeld => ?_)
         clear hK K hst
         refine norm_ (a' := ?_) ?_ ?_
         rotate_left
         · show Act.put _ (some 4) _ = _
           simp only [Act.put, sA_, sB_, sC_, i64_w, i32_w]
           rfl
         refine one_ (i := 13) (N := (some 5)) #[true, true, true, true, true, true, true, true, true, true, true, true, true, true, false, false] rfl rfl (one_of HT_.out (by kernel_rfl)) (by decide) ?_
         intro K hK
         refine value_ (w1 := ?_) (v := ?_) (by rfl) rfl ?_ ?_
         rotate_left 2
         · go_simp
           constructor
           · rfl
           · rfl
         have hb : Below (w2.alloc (.cells #[.slice none 0 0, .int .u64 0, .bool false] 165)).heap.size (w2.alloc (.cells #[.slice none 0 0, .int .u64 0, .bool false] 165)) ((w2.alloc (.cells #[.slice none 0 0, .int .u64 0, .bool false] 165)).alloc (.cells #[.slice none 0 0, .int .u64 0, .bool false] 165)) := (Below.refl _ _).alloc (Nat.le_refl _) _
         have HC5 := Lib.hid (Kd.C_below HC5.out hb)
         have HC11 := Lib.hid (Kd.C_below HC11.out hb)
         have HK12 := Lib.hid (HK12.out.below hb HK12.out.lt)
         have HK13 : Hid (HeldAt ((w2.alloc (.cells #[.slice none 0 0, .int .u64 0, .bool false] 165)).alloc (.cells #[.slice none 0 0, .int .u64 0, .bool false] 165)) (w2.alloc (.cells #[.slice none 0 0, .int .u64 0, .bool false] 165)).heap.size (.slice none 0 0) (.int .u64 0) (.bool false)) := Lib.hid (World.alloc_heap_new (w2.alloc (.cells #[.slice none 0 0, .int .u64 0, .bool false] 165)) _)
         have HP13 : Hid (w0.heap.size ≤ (w2.alloc (.cells #[.slice none 0 0, .int .u64 0, .bool false] 165)).heap.size) := Lib.hid HBD.out.size
         have HNE : Hid (w2.heap.size ≠ (w2.alloc (.cells #[.slice none 0 0, .int .u64 0, .bool false] 165)).heap.size) := Lib.hid (by have := HLT12.out; omega)
         have HLT13 : Hid ((w2.alloc (.cells #[.slice none 0 0, .int .u64 0, .bool false] 165)).heap.size < ((w2.alloc (.cells #[.slice none 0 0, .int .u64 0, .bool false] 165)).alloc (.cells #[.slice none 0 0, .int .u64 0, .bool false] 165)).heap.size) := Lib.hid HK13.out.lt
         have HK13 := by have h := HK13.out; rw [World.size_alloc] at h; exact Lib.hid h
         have HP13 := by have h := HP13.out; rw [World.size_alloc] at h; exact Lib.hid h
         have HNE := by have h := HNE.out; rw [World.size_alloc] at h; exact Lib.hid h
         have HLT12 := Lib.hid (Nat.lt_of_lt_of_le HLT12.out hb.size)
         have HBD := Lib.hid (HBD.out.trans (hb.mono HBD.out.size))
         clear hb
         have hst := HS.out.below HBD.out HS.out.lt
         refine hK.out _ _ ⟨hst.c0, hst.c1⟩ (fun hHeld => ?_)
         clear hK K hst
         refine norm_ (a' := ?_) ?_ ?_
         rotate_left
         · show Act.put _ (some 5) _ = _
           simp only [Act.put, sA_, sB_, sC_, i64_w, i32_w]
           rfl
         exact norm_ (by rfl) (hcont (A5, c5, A11, c11, _, _) _ ⟨HS.out.below HBD.out HS.out.lt, HC5.out, HC11.out, HK12.out, HK13.out, HNE.out, HP12.out, HP13.out, HBD.out⟩)
       · skip
         intro K hK
         refine value_ (w1 := ?_) (v := ?_) (by rfl) rfl ?_ ?_
         rotate_left 2
         · go_simp
           constructor
           · rfl
           · rfl
         have hb : Below w2.heap.size w2 (w2.alloc (.cells #[.slice none 0 0, .int .u64 0, .bool false] 165)) := (Below.refl _ _).alloc (Nat.le_refl _) _
         have HC5 := Lib.hid (Kd.C_below HC5.out hb)
         have HC11 := Lib.hid (Kd.C_below HC11.out hb)
         have HK13 : Hid (HeldAt (w2.alloc (.cells #[.slice none 0 0, .int .u64 0, .bool false] 165)) w2.heap.size (.slice none 0 0) (.int .u64 0) (.bool false)) := Lib.hid (World.alloc_heap_new w2 _)
         have HP13 : Hid (w0.heap.size ≤ w2.heap.size) := Lib.hid HBD.out.size
         have HLT13 : Hid (w2.heap.size < (w2.alloc (.cells #[.slice none 0 0, .int .u64 0, .bool false] 165)).heap.size) := Lib.hid HK13.out.lt
         have HBD := Lib.hid (HBD.out.trans (hb.mono HBD.out.size))
         clear hb
         have hst := HS.out.below HBD.out HS.out.lt
         refine hK.out _ _ ⟨hst.c0, hst.c1⟩ (fun hHeld => ?_)
         clear hK K hst
         refine norm_ (a' := ?_) ?_ ?_
         rotate_left
         · show Act.put _ (some 5) _ = _
           simp only [Act.put, sA_, sB_, sC_, i64_w, i32_w]
           rfl
         refine one_ (i := 12) (N := (some 4)) #[true, true, true, true, true, true, true, true, true, true, true, true, true, true, false, false] rfl rfl (one_of HT_.out (by kernel_rfl)) (by decide) ?_
         intro K hK
         refine value_ (w1 := ?_) (v := ?_) (by rfl) rfl ?_ ?_
         rotate_left 2
         · go_simp
           constructor
           · rfl
           · rfl
         have hb : Below (w2.alloc (.cells #[.slice none 0 0, .int .u64 0, .bool false] 165)).heap.size (w2.alloc (.cells #[.slice none 0 0, .int .u64 0, .bool false] 165)) ((w2.alloc (.cells #[.slice none 0 0, .int .u64 0, .bool false] 165)).alloc (.cells #[.slice none 0 0, .int .u64 0, .bool false] 165)) := (Below.refl _ _).alloc (Nat.le_refl _) _
         have HC5 := Lib.hid (Kd.C_below HC5.out hb)
         have HC11 := Lib.hid (Kd.C_below HC11.out hb)
         have HK13 := Lib.hid (HK13.out.below hb HK13.out.lt)
         have HK12 : Hid (HeldAt ((w2.alloc (.cells #[.slice none 0 0, .int .u64 0, .bool false] 165)).alloc (.cells #[.slice none 0 0, .int .u64 0, .bool false] 165)) (w2.alloc (.cells #[.slice none 0 0, .int .u64 0, .bool false] 165)).heap.size (.slice none 0 0) (.int .u64 0) (.bool false)) := Lib.hid (World.alloc_heap_new (w2.alloc (.cells #[.slice none 0 0, .int .u64 0, .bool false] 165)) _)
         have HP12 : Hid (w0.heap.size ≤ (w2.alloc (.cells #[.slice none 0 0, .int .u64 0, .bool false] 165)).heap.size) := Lib.hid HBD.out.size
         have HNE : Hid ((w2.alloc (.cells #[.slice none 0 0, .int .u64 0, .bool false] 165)).heap.size ≠ w2.heap.size) := Lib.hid (by have := HLT13.out; omega)
         have HLT12 : Hid ((w2.alloc (.cells #[.slice none 0 0, .int .u64 0, .bool false] 165)).heap.size < ((w2.alloc (.cells #[.slice none 0 0, .int .u64 0, .bool false] 165)).alloc (.cells #[.slice none 0 0, .int .u64 0, .bool false] 165)).heap.size) := Lib.hid HK12.out.lt
         have HK12 := by have h := HK12.out; rw [World.size_alloc] at h; exact Lib.hid h
         have HP12 := by have h := HP12.out; rw [World.size_alloc] at h; exact Lib.hid h
         have HNE := by have h := HNE.out; rw [World.size_alloc] at h; exact Lib.hid h
         have HLT13 := Lib.hid (Nat.lt_of_lt_of_le HLT13.out hb.size)
         have HBD := Lib.hid (HBD.out.trans (hb.mono HBD.out.size))
         clear hb
         have hst := HS.out.below HBD.out HS.out.lt
         refine hK.out _ _ ⟨hst.c0, hst.c1⟩ (fun hHeld => ?_)
         clear hK K hst
         refine norm_ (a' := ?_) ?_ ?_
         rotate_left
         · show Act.put _ (some 4) _ = _
           simp only [Act.put, sA_, sB_, sC_, i64_w, i32_w]
           rfl
         exact norm_ (by rfl) (hcont (A5, c5, A11, c11, _, _) _ ⟨HS.out.below HBD.out HS.out.lt, HC5.out, HC11.out, HK12.out, HK13.out, HNE.out, HP12.out, HP13.out, HBD.out⟩)
     · skip
       intro K hK
       refine value_ (w1 := ?_) (v := ?_) (by rfl) rfl ?_ ?_
       rotate_left 2
       · go_simp
         constructor
         · rfl
         · rfl
       have hb : Below w1.heap.size w1 (w1.alloc (.cells #[.slice none 0 0, .int .u64 0, .bool false] 165)) := (Below.refl _ _).alloc (Nat.le_refl _) _
       have HC5 := Lib.hid (Kd.C_below HC5.out hb)
       have HK12 : Hid (HeldAt (w1.alloc (.cells #[.slice none 0 0, .int .u64 0, .bool false] 165)) w1.heap.size (.slice none 0 0) (.int .u64 0) (.bool false)) := Lib.hid (World.alloc_heap_new w1 _)
       have HP12 : Hid (w0.heap.size ≤ w1.heap.size) := Lib.hid HBD.out.size
       have HLT12 : Hid (w1.heap.size < (w1.alloc (.cells #[.slice none 0 0, .int .u64 0, .bool false] 165)).heap.size) := Lib.hid HK12.out.lt
       have HBD := Lib.hid (HBD.out.trans (hb.mono HBD.out.size))
       clear hb
       have hst := HS.out.below HBD.out HS.out.lt
       refine hK.out _ _ ⟨hst.c0, hst.c1⟩ (fun hHeld => ?_)
       clear hK K hst
       refine norm_ (a' := ?_) ?_ ?_
       rotate_left
       · show Act.put _ (some 4) _ = _
         simp only [Act.put, sA_, sB_, sC_, i64_w, i32_w]
         rfl
       refine two_ (i := 11) (j := 13) (Ni := (some 18)) (Nj := (some 5)) #[true, true, true, true, true, true, true, true, true, true, true, true, true, false, false, false] #[true, true, true, true, true, true, true, true, true, true, true, false, true, true, false, false] rfl rfl rfl rfl (two_of HT_.out (by kernel_rfl)) (by decide) (by decide) ?_ ?_
       · skip
         intro K hK
         refine goes_ Try.func152 (by kernel_rfl) rfl #[.pointer (some ⟨BY, 0, none⟩)] (by rfl) rfl rfl (by (try simp only [List.map_toArray, List.map_cons, List.map_nil]); first | done | rfl) ?_
         refine (look_is (HY.out.below HBD.out (Nat.le_refl _)) HBY.out).mono ?_
         rintro e w3 ⟨A11, c11, rfl, hc11, hb⟩
         refine ⟨_, rfl, ?_⟩
         have HC11 := Lib.hid hc11
         clear hc11
         have HC5 := Lib.hid (Kd.C_below HC5.out hb)
         have HK12 := Lib.hid (HK12.out.below hb HK12.out.lt)
         have HLT12 := Lib.hid (Nat.lt_of_lt_of_le HLT12.out hb.size)
         have HBD := Lib.hid (HBD.out.trans (hb.mono HBD.out.size))
         clear hb
         have hst := HS.out.below HBD.out HS.out.lt
         refine hK.out _ _ ⟨hst.c0, hst.c1⟩ (fun hHeld => ?_)
         clear hK K hst
         refine norm_ (a' := ?_) ?_ ?_
         rotate_left
         · show Act.put _ (some 18) _ = _
           simp only [Act.put, sA_, sB_, sC_, i64_w, i32_w]
           rfl
         refine one_ (i := 13) (N := (some 5)) #[true, true, true, true, true, true, true, true, true, true, true, true, true, true, false, false] rfl rfl (one_of HT_.out (by kernel_rfl)) (by decide) ?_
         intro K hK
         refine value_ (w1 := ?_) (v := ?_) (by rfl) rfl ?_ ?_
         rotate_left 2
         · go_simp
           constructor
           · rfl
           · rfl
         have hb : Below w3.heap.size w3 (w3.alloc (.cells #[.slice none 0 0, .int .u64 0, .bool false] 165)) := (Below.refl _ _).alloc (Nat.le_refl _) _
         have HC5 := Lib.hid (Kd.C_below HC5.out hb)
         have HK12 := Lib.hid (HK12.out.below hb HK12.out.lt)
         have HC11 := Lib.hid (Kd.C_below HC11.out hb)
         have HK13 : Hid (HeldAt (w3.alloc (.cells #[.slice none 0 0, .int .u64 0, .bool false] 165)) w3.heap.size (.slice none 0 0) (.int .u64 0) (.bool false)) := Lib.hid (World.alloc_heap_new w3 _)
         have HP13 : Hid (w0.heap.size ≤ w3.heap.size) := Lib.hid HBD.out.size
         have HNE : Hid (w1.heap.size ≠ w3.heap.size) := Lib.hid (by have := HLT12.out; omega)
         have HLT13 : Hid (w3.heap.size < (w3.alloc (.cells #[.slice none 0 0, .int .u64 0, .bool false] 165)).heap.size) := Lib.hid HK13.out.lt
         have HLT12 := Lib.hid (Nat.lt_of_lt_of_le HLT12.out hb.size)
         have HBD := Lib.hid (HBD.out.trans (hb.mono HBD.out.size))
         clear hb
         have hst := HS.out.below HBD.out HS.out.lt
         refine hK.out _ _ ⟨hst.c0, hst.c1⟩ (fun hHeld => ?_)
         clear hK K hst
         refine norm_ (a' := ?_) ?_ ?_
         rotate_left
         · show Act.put _ (some 5) _ = _
           simp only [Act.put, sA_, sB_, sC_, i64_w, i32_w]
           rfl
         exact norm_ (by rfl) (hcont (A5, c5, A11, c11, _, _) _ ⟨HS.out.below HBD.out HS.out.lt, HC5.out, HC11.out, HK12.out, HK13.out, HNE.out, HP12.out, HP13.out, HBD.out⟩)
       · skip
         intro K hK
         refine value_ (w1 := ?_) (v := ?_) (by rfl) rfl ?_ ?_
         rotate_left 2
         · go_simp
           constructor
           · rfl
           · rfl
         have hb : Below (w1.alloc (.cells #[.slice none 0 0, .int .u64 0, .bool false] 165)).heap.size (w1.alloc (.cells #[.slice none 0 0, .int .u64 0, .bool false] 165)) ((w1.alloc (.cells #[.slice none 0 0, .int .u64 0, .bool false] 165)).alloc (.cells #[.slice none 0 0, .int .u64 0, .bool false] 165)) := (Below.refl _ _).alloc (Nat.le_refl _) _
         have HC5 := Lib.hid (Kd.C_below HC5.out hb)
         have HK12 := Lib.hid (HK12.out.below hb HK12.out.lt)
         have HK13 : Hid (HeldAt ((w1.alloc (.cells #[.slice none 0 0, .int .u64 0, .bool false] 165)).alloc (.cells #[.slice none 0 0, .int .u64 0, .bool false] 165)) (w1.alloc (.cells #[.slice none 0 0, .int .u64 0, .bool false] 165)).heap.size (.slice none 0 0) (.int .u64 0) (.bool false)) := Lib.hid (World.alloc_heap_new (w1.alloc (.cells #[.slice none 0 0, .int .u64 0, .bool false] 165)) _)
         have HP13 : Hid (w0.heap.size ≤ (w1.alloc (.cells #[.slice none 0 0, .int .u64 0, .bool false] 165)).heap.size) := Lib.hid HBD.out.size
         have HNE : Hid (w1.heap.size ≠ (w1.alloc (.cells #[.slice none 0 0, .int .u64 0, .bool false] 165)).heap.size) := Lib.hid (by have := HLT12.out; omega)
         have HLT13 : Hid ((w1.alloc (.cells #[.slice none 0 0, .int .u64 0, .bool false] 165)).heap.size < ((w1.alloc (.cells #[.slice none 0 0, .int .u64 0, .bool false] 165)).alloc (.cells #[.slice none 0 0, .int .u64 0, .bool false] 165)).heap.size) := Lib.hid HK13.out.lt
         have HK13 := by have h := HK13.out; rw [World.size_alloc] at h; exact Lib.hid h
         have HP13 := by have h := HP13.out; rw [World.size_alloc] at h; exact Lib.hid h
         have HNE := by have h := HNE.out; rw [World.size_alloc] at h; exact Lib.hid h
         have HLT12 := Lib.hid (Nat.lt_of_lt_of_le HLT12.out hb.size)
         have HBD := Lib.hid (HBD.out.trans (hb.mono HBD.out.size))
         clear hb
         have hst := HS.out.below HBD.out HS.out.lt
         refine hK.out _ _ ⟨hst.c0, hst.c1⟩ (fun hHeld => ?_)
         clear hK K hst
         refine norm_ (a' := ?_) ?_ ?_
         rotate_left
         · show Act.put _ (some 5) _ = _
           simp only [Act.put, sA_, sB_, sC_, i64_w, i32_w]
           rfl
         refine one_ (i := 11) (N := (some 18)) #[true, true, true, true, true, true, true, true, true, true, true, true, true, true, false, false] rfl rfl (one_of HT_.out (by kernel_rfl)) (by decide) ?_
         intro K hK
         refine goes_ Try.func152 (by kernel_rfl) rfl #[.pointer (some ⟨BY, 0, none⟩)] (by rfl) rfl rfl (by (try simp only [List.map_toArray, List.map_cons, List.map_nil]); first | done | rfl) ?_
         refine (look_is (HY.out.below HBD.out (Nat.le_refl _)) HBY.out).mono ?_
         rintro e w4 ⟨A11, c11, rfl, hc11, hb⟩
         refine ⟨_, rfl, ?_⟩
         have HC11 := Lib.hid hc11
         clear hc11
         have HC5 := Lib.hid (Kd.C_below HC5.out hb)
         have HK12 := Lib.hid (HK12.out.below hb HK12.out.lt)
         have HK13 := Lib.hid (HK13.out.below hb HK13.out.lt)
         have HLT12 := Lib.hid (Nat.lt_of_lt_of_le HLT12.out hb.size)
         have HLT13 := Lib.hid (Nat.lt_of_lt_of_le HLT13.out hb.size)
         have HBD := Lib.hid (HBD.out.trans (hb.mono HBD.out.size))
         clear hb
         have hst := HS.out.below HBD.out HS.out.lt
         refine hK.out _ _ ⟨hst.c0, hst.c1⟩ (fun hHeld => ?_)
         clear hK K hst
         refine norm_ (a' := ?_) ?_ ?_
         rotate_left
         · show Act.put _ (some 18) _ = _
           simp only [Act.put, sA_, sB_, sC_, i64_w, i32_w]
           rfl
         exact norm_ (by rfl) (hcont (A5, c5, A11, c11, _, _) _ ⟨HS.out.below HBD.out HS.out.lt, HC5.out, HC11.out, HK12.out, HK13.out, HNE.out, HP12.out, HP13.out, HBD.out⟩)
     · skip
       intro K hK
       refine value_ (w1 := ?_) (v := ?_) (by rfl) rfl ?_ ?_
       rotate_left 2
       · go_simp
         constructor
         · rfl
         · rfl
       have hb : Below w1.heap.size w1 (w1.alloc (.cells #[.slice none 0 0, .int .u64 0, .bool false] 165)) := (Below.refl _ _).alloc (Nat.le_refl _) _
       have HC5 := Lib.hid (Kd.C_below HC5.out hb)
       have HK13 : Hid (HeldAt (w1.alloc (.cells #[.slice none 0 0, .int .u64 0, .bool false] 165)) w1.heap.size (.slice none 0 0) (.int .u64 0) (.bool false)) := Lib.hid (World.alloc_heap_new w1 _)
       have HP13 : Hid (w0.heap.size ≤ w1.heap.size) := Lib.hid HBD.out.size
       have HLT13 : Hid (w1.heap.size < (w1.alloc (.cells #[.slice none 0 0, .int .u64 0, .bool false] 165)).heap.size) := Lib.hid HK13.out.lt
       have HBD := Lib.hid (HBD.out.trans (hb.mono HBD.out.size))
       clear hb
       have hst := HS.out.below HBD.out HS.out.lt
       refine hK.out _ _ ⟨hst.c0, hst.c1⟩ (fun hHeld => ?_)
       clear hK K hst
       refine norm_ (a' := ?_) ?_ ?_
       rotate_left
       · show Act.put _ (some 5) _ = _
         simp only [Act.put, sA_, sB_, sC_, i64_w, i32_w]
         rfl
       refine two_ (i := 11) (j := 12) (Ni := (some 18)) (Nj := (some 4)) #[true, true, true, true, true, true, true, true, true, true, true, true, false, true, false, false] #[true, true, true, true, true, true, true, true, true, true, true, false, true, true, false, false] rfl rfl rfl rfl (two_of HT_.out (by kernel_rfl)) (by decide) (by decide) ?_ ?_
       · skip
         intro K hK
         refine goes_ Try.func152 (by kernel_rfl) rfl #[.pointer (some ⟨BY, 0, none⟩)] (by rfl) rfl rfl (by (try simp only [List.map_toArray, List.map_cons, List.map_nil]); first | done | rfl) ?_
         refine (look_is (HY.out.below HBD.out (Nat.le_refl _)) HBY.out).mono ?_
         rintro e w3 ⟨A11, c11, rfl, hc11, hb⟩
         refine ⟨_, rfl, ?_⟩
         have HC11 := Lib.hid hc11
         clear hc11
         have HC5 := Lib.hid (Kd.C_below HC5.out hb)
         have HK13 := Lib.hid (HK13.out.below hb HK13.out.lt)
         have HLT13 := Lib.hid (Nat.lt_of_lt_of_le HLT13.out hb.size)
         have HBD := Lib.hid (HBD.out.trans (hb.mono HBD.out.size))
         clear hb
         have hst := HS.out.below HBD.out HS.out.lt
         refine hK.out _ _ ⟨hst.c0, hst.c1⟩ (fun hHeld => ?_)
         clear hK K hst
         refine norm_ (a' := ?_) ?_ ?_
         rotate_left
         · show Act.put _ (some 18) _ = _
           simp only [Act.put, sA_, sB_, sC_, i64_w, i32_w]
           rfl
         refine one_ (i := 12) (N := (some 4)) #[true, true, true, true, true, true, true, true, true, true, true, true, true, true, false, false] rfl rfl (one_of HT_.out (by kernel_rfl)) (by decide) ?_
         intro K hK
         refine value_ (w1 := ?_) (v := ?_) (by rfl) rfl ?_ ?_
         rotate_left 2
         · go_simp
           constructor
           · rfl
           · rfl
         have hb : Below w3.heap.size w3 (w3.alloc (.cells #[.slice none 0 0, .int .u64 0, .bool false] 165)) := (Below.refl _ _).alloc (Nat.le_refl _) _
         have HC5 := Lib.hid (Kd.C_below HC5.out hb)
         have HK13 := Lib.hid (HK13.out.below hb HK13.out.lt)
         have HC11 := Lib.hid (Kd.C_below HC11.out hb)
         have HK12 : Hid (HeldAt (w3.alloc (.cells #[.slice none 0 0, .int .u64 0, .bool false] 165)) w3.heap.size (.slice none 0 0) (.int .u64 0) (.bool false)) := Lib.hid (World.alloc_heap_new w3 _)
         have HP12 : Hid (w0.heap.size ≤ w3.heap.size) := Lib.hid HBD.out.size
         have HNE : Hid (w3.heap.size ≠ w1.heap.size) := Lib.hid (by have := HLT13.out; omega)
         have HLT12 : Hid (w3.heap.size < (w3.alloc (.cells #[.slice none 0 0, .int .u64 0, .bool false] 165)).heap.size) := Lib.hid HK12.out.lt
         have HLT13 := Lib.hid (Nat.lt_of_lt_of_le HLT13.out hb.size)
         have HBD := Lib.hid (HBD.out.trans (hb.mono HBD.out.size))
         clear hb
         have hst := HS.out.below HBD.out HS.out.lt
         refine hK.out _ _ ⟨hst.c0, hst.c1⟩ (fun hHeld => ?_)
         clear hK K hst
         refine norm_ (a' := ?_) ?_ ?_
         rotate_left
         · show Act.put _ (some 4) _ = _
           simp only [Act.put, sA_, sB_, sC_, i64_w, i32_w]
           rfl
         exact norm_ (by rfl) (hcont (A5, c5, A11, c11, _, _) _ ⟨HS.out.below HBD.out HS.out.lt, HC5.out, HC11.out, HK12.out, HK13.out, HNE.out, HP12.out, HP13.out, HBD.out⟩)
       · skip
         intro K hK
         refine value_ (w1 := ?_) (v := ?_) (by rfl) rfl ?_ ?_
         rotate_left 2
         · go_simp
           constructor
           · rfl
           · rfl
         have hb : Below (w1.alloc (.cells #[.slice none 0 0, .int .u64 0, .bool false] 165)).heap.size (w1.alloc (.cells #[.slice none 0 0, .int .u64 0, .bool false] 165)) ((w1.alloc (.cells #[.slice none 0 0, .int .u64 0, .bool false] 165)).alloc (.cells #[.slice none 0 0, .int .u64 0, .bool false] 165)) := (Below.refl _ _).alloc (Nat.le_refl _) _
         have HC5 := Lib.hid (Kd.C_below HC5.out hb)
         have HK13 := Lib.hid (HK13.out.below hb HK13.out.lt)
         have HK12 : Hid (HeldAt ((w1.alloc (.cells #[.slice none 0 0, .int .u64 0, .bool false] 165)).alloc (.cells #[.slice none 0 0, .int .u64 0, .bool false] 165)) (w1.alloc (.cells #[.slice none 0 0, .int .u64 0, .bool false] 165)).heap.size (.slice none 0 0) (.int .u64 0) (.bool false)) := Lib.hid (World.alloc_heap_new (w1.alloc (.cells #[.slice none 0 0, .int .u64 0, .bool false] 165)) _)
         have HP12 : Hid (w0.heap.size ≤ (w1.alloc (.cells #[.slice none 0 0, .int .u64 0, .bool false] 165)).heap.size) := Lib.hid HBD.out.size
         have HNE : Hid ((w1.alloc (.cells #[.slice none 0 0, .int .u64 0, .bool false] 165)).heap.size ≠ w1.heap.size) := Lib.hid (by have := HLT13.out; omega)
         have HLT12 : Hid ((w1.alloc (.cells #[.slice none 0 0, .int .u64 0, .bool false] 165)).heap.size < ((w1.alloc (.cells #[.slice none 0 0, .int .u64 0, .bool false] 165)).alloc (.cells #[.slice none 0 0, .int .u64 0, .bool false] 165)).heap.size) := Lib.hid HK12.out.lt
         have HK12 := by have h := HK12.out; rw [World.size_alloc] at h; exact Lib.hid h
         have HP12 := by have h := HP12.out; rw [World.size_alloc] at h; exact Lib.hid h
         have HNE := by have h := HNE.out; rw [World.size_alloc] at h; exact Lib.hid h
         have HLT13 := Lib.hid (Nat.lt_of_lt_of_le HLT13.out hb.size)
         have HBD := Lib.hid (HBD.out.trans (hb.mono HBD.out.size))
         clear hb
         have hst := HS.out.below HBD.out HS.out.lt
         refine hK.out _ _ ⟨hst.c0, hst.c1⟩ (fun hHeld => ?_)
         clear hK K hst
         refine norm_ (a' := ?_) ?_ ?_
         rotate_left
         · show Act.put _ (some 4) _ = _
           simp only [Act.put, sA_, sB_, sC_, i64_w, i32_w]
           rfl
         refine one_ (i := 11) (N := (some 18)) #[true, true, true, true, true, true, true, true, true, true, true, true, true, true, false, false] rfl rfl (one_of HT_.out (by kernel_rfl)) (by decide) ?_
         intro K hK
         refine goes_ Try.func152 (by kernel_rfl) rfl #[.pointer (some ⟨BY, 0, none⟩)] (by rfl) rfl rfl (by (try simp only [List.map_toArray, List.map_cons, List.map_nil]); first | done | rfl) ?_
         refine (look_is (HY.out.below HBD.out (Nat.le_refl _)) HBY.out).mono ?_
         rintro e w4 ⟨A11, c11, rfl, hc11, hb⟩
         refine ⟨_, rfl, ?_⟩
         have HC11 := Lib.hid hc11
         clear hc11
         have HC5 := Lib.hid (Kd.C_below HC5.out hb)
         have HK13 := Lib.hid (HK13.out.below hb HK13.out.lt)
         have HK12 := Lib.hid (HK12.out.below hb HK12.out.lt)
         have HLT13 := Lib.hid (Nat.lt_of_lt_of_le HLT13.out hb.size)
         have HLT12 := Lib.hid (Nat.lt_of_lt_of_le HLT12.out hb.size)
         have HBD := Lib.hid (HBD.out.trans (hb.mono HBD.out.size))
         clear hb
         have hst := HS.out.below HBD.out HS.out.lt
         refine hK.out _ _ ⟨hst.c0, hst.c1⟩ (fun hHeld => ?_)
         clear hK K hst
         refine norm_ (a' := ?_) ?_ ?_
         rotate_left
         · show Act.put _ (some 18) _ = _
           simp only [Act.put, sA_, sB_, sC_, i64_w, i32_w]
           rfl
         exact norm_ (by rfl) (hcont (A5, c5, A11, c11, _, _) _ ⟨HS.out.below HBD.out HS.out.lt, HC5.out, HC11.out, HK12.out, HK13.out, HNE.out, HP12.out, HP13.out, HBD.out⟩)
   · skip
     intro K hK
     refine value_ (w1 := ?_) (v := ?_) (by rfl) rfl ?_ ?_
     rotate_left 2
     · go_simp
       constructor
       · rfl
       · rfl
     have hb : Below w0.drew.heap.size w0.drew (w0.drew.alloc (.cells #[.slice none 0 0, .int .u64 0, .bool false] 165)) := (Below.refl _ _).alloc (Nat.le_refl _) _
     have HK12 : Hid (HeldAt (w0.drew.alloc (.cells #[.slice none 0 0, .int .u64 0, .bool false] 165)) w0.drew.heap.size (.slice none 0 0) (.int .u64 0) (.bool false)) := Lib.hid (World.alloc_heap_new w0.drew _)
     have HP12 : Hid (w0.heap.size ≤ w0.drew.heap.size) := Lib.hid HBD.out.size
     have HLT12 : Hid (w0.drew.heap.size < (w0.drew.alloc (.cells #[.slice none 0 0, .int .u64 0, .bool false] 165)).heap.size) := Lib.hid HK12.out.lt
     have HBD := Lib.hid (HBD.out.trans (hb.mono HBD.out.size))
     clear hb
     have hst := HS.out.below HBD.out HS.out.lt
     refine hK.out _ _ ⟨hst.c0, hst.c1⟩ (fun hHeld => ?_)
     clear hK K hst
     refine norm_ (a' := ?_) ?_ ?_
     rotate_left
     · show Act.put _ (some 4) _ = _
       simp only [Act.put, sA_, sB_, sC_, i64_w, i32_w]
       rfl
     refine two_ (i := 5) (j := 13) (Ni := (some 12)) (Nj := (some 5)) #[true, true, true, true, true, true, true, true, true, true, true, false, true, false, false, false] #[true, true, true, true, true, false, true, true, true, true, true, false, true, true, false, false] rfl rfl rfl rfl (two_of HT_.out (by kernel_rfl)) (by decide) (by decide) ?_ ?_
     · skip
       intro K hK
       refine goes_ Try.func152 (by kernel_rfl) rfl #[.pointer (some ⟨BX, 0, none⟩)] (by rfl) rfl rfl (by (try simp only [List.map_toArray, List.map_cons, List.map_nil]); first | done | rfl) ?_
       refine (look_is (HX.out.below HBD.out (Nat.le_refl _)) HBX.out).mono ?_
       rintro e w2 ⟨A5, c5, rfl, hc5, hb⟩
       refine ⟨_, rfl, ?_⟩
       have HC5 := Lib.hid hc5
       clear hc5
       have HK12 := Lib.hid (HK12.out.below hb HK12.out.lt)
       have HLT12 := Lib.hid (Nat.lt_of_lt_of_le HLT12.out hb.size)
       have HBD := Lib.hid (HBD.out.trans (hb.mono HBD.out.size))
       clear hb
       have hst := HS.out.below HBD.out HS.out.lt
       refine hK.out _ _ ⟨hst.c0, hst.c1⟩ (fun hHeld => ?_)
       clear hK K hst
       refine norm_ (a' := ?_) ?_ ?_
       rotate_left
       · show Act.put _ (some 12) _ = _
         simp only [Act.put, sA_, sB_, sC_, i64_w, i32_w]
         rfl
       refine two_ (i := 11) (j := 13) (Ni := (some 18)) (Nj := (some 5)) #[true, true, true, true, true, true, true, true, true, true, true, true, true, false, false, false] #[true, true, true, true, true, true, true, true, true, true, true, false, true, true, false, false] rfl rfl rfl rfl (two_of HT_.out (by kernel_rfl)) (by decide) (by decide) ?_ ?_
       · skip
         intro K hK
         refine goes_ Try.func152 (by kernel_rfl) rfl #[.pointer (some ⟨BY, 0, none⟩)] (by rfl) rfl rfl (by (try simp only [List.map_toArray, List.map_cons, List.map_nil]); first | done | rfl) ?_
         refine (look_is (HY.out.below HBD.out (Nat.le_refl _)) HBY.out).mono ?_
         rintro e w3 ⟨A11, c11, rfl, hc11, hb⟩
         refine ⟨_, rfl, ?_⟩
         have HC11 := Lib.hid hc11
         clear hc11
         have HK12 := Lib.hid (HK12.out.below hb HK12.out.lt)
         have HC5 := Lib.hid (Kd.C_below HC5.out hb)
         have HLT12 := Lib.hid (Nat.lt_of_lt_of_le HLT12.out hb.size)
         have HBD := Lib.hid (HBD.out.trans (hb.mono HBD.out.size))
         clear hb
         have hst := HS.out.below HBD.out HS.out.lt
         refine hK.out _ _ ⟨hst.c0, hst.c1⟩ (fun hHeld => ?_)
         clear hK K hst
         refine norm_ (a' := ?_) ?_ ?_
         rotate_left
         · show Act.put _ (some 18) _ = _
           simp only [Act.put, sA_, sB_, sC_, i64_w, i32_w]
           rfl
         refine one_ (i := 13) (N := (some 5)) #[true, true, true, true, true, true, true, true, true, true, true, true, true, true, false, false] rfl rfl (one_of HT_.out (by kernel_rfl)) (by decide) ?_
         intro K hK
         refine value_ (w1 := ?_) (v := ?_) (by rfl) rfl ?_ ?_
         rotate_left 2
         · go_simp
           constructor
           · rfl
           · rfl
         have hb : Below w3.heap.size w3 (w3.alloc (.cells #[.slice none 0 0, .int .u64 0, .bool false] 165)) := (Below.refl _ _).alloc (Nat.le_refl _) _
         have HK12 := Lib.hid (HK12.out.below hb HK12.out.lt)
         have HC5 := Lib.hid (Kd.C_below HC5.out hb)
         have HC11 := Lib.hid (Kd.C_below HC11.out hb)
         have HK13 : Hid (HeldAt (w3.alloc (.cells #[.slice none 0 0, .int .u64 0, .bool false] 165)) w3.heap.size (.slice none 0 0) (.int .u64 0) (.bool false)) := Lib.hid (World.alloc_heap_new w3 _)
         have HP13 : Hid (w0.heap.size ≤ w3.heap.size) := Lib.hid HBD.out.size
         have HNE : Hid (w0.drew.heap.size ≠ w3.heap.size) := Lib.hid (by have := HLT12.out; omega)
         have HLT13 : Hid (w3.heap.size < (w3.alloc (.cells #[.slice none 0 0, .int .u64 0, .bool false] 165)).heap.size) := Lib.hid HK13.out.lt
         have HLT12 := Lib.hid (Nat.lt_of_lt_of_le HLT12.out hb.size)
         have HBD := Lib.hid (HBD.out.trans (hb.mono HBD.out.size))
         clear hb
         have hst := HS.out.below HBD.out HS.out.lt
         refine hK.out _ _ ⟨hst.c0, hst.c1⟩ (fun hHeld => ?_)
         clear hK K hst
         refine norm_ (a' := ?_) ?_ ?_
         rotate_left
         · show Act.put _ (some 5) _ = _
           simp only [Act.put, sA_, sB_, sC_, i64_w, i32_w]
           rfl
         exact norm_ (by rfl) (hcont (A5, c5, A11, c11, _, _) _ ⟨HS.out.below HBD.out HS.out.lt, HC5.out, HC11.out, HK12.out, HK13.out, HNE.out, HP12.out, HP13.out, HBD.out⟩)
       · skip
         intro K hK
         refine value_ (w1 := ?_) (v := ?_) (by rfl) rfl ?_ ?_
         rotate_left 2
         · go_simp
           constructor
           · rfl
           · rfl
         have hb : Below w2.heap.size w2 (w2.alloc (.cells #[.slice none 0 0, .int .u64 0, .bool false] 165)) := (Below.refl _ _).alloc (Nat.le_refl _) _
         have HK12 := Lib.hid (HK12.out.below hb HK12.out.lt)
         have HC5 := Lib.hid (Kd.C_below HC5.out hb)
         have HK13 : Hid (HeldAt (w2.alloc (.cells #[.slice none 0 0, .int .u64 0, .bool false] 165)) w2.heap.size (.slice none 0 0) (.int .u64 0) (.bool false)) := Lib.hid (World.alloc_heap_new w2 _)
         have HP13 : Hid (w0.heap.size ≤ w2.heap.size) := Lib.hid HBD.out.size
         have HNE : Hid (w0.drew.heap.size ≠ w2.heap.size) := Lib.hid (by have := HLT12.out; omega)
         have HLT13 : Hid (w2.heap.size < (w2.alloc (.cells #[.slice none 0 0, .int .u64 0, .bool false] 165)).heap.size) := Lib.hid HK13.out.lt
         have HLT12 := Lib.hid (Nat.lt_of_lt_of_le HLT12.out hb.size)
         have HBD := Lib.hid (HBD.out.trans (hb.mono HBD.out.size))
         clear hb
         have hst := HS.out.below HBD.out HS.out.lt
         refine hK.out _ _ ⟨hst.c0, hst.c1⟩ (fun hHeld => ?_)
         clear hK K hst
         refine norm_ (a' := ?_) ?_ ?_
         rotate_left
         · show Act.put _ (some 5) _ = _
           simp only [Act.put, sA_, sB_, sC_, i64_w, i32_w]
           rfl
         refine one_ (i := 11) (N := (some 18)) #[true, true, true, true, true, true, true, true, true, true, true, true, true, true, false, false] rfl rfl (one_of HT_.out (by kernel_rfl)) (by decide) ?_
         intro K hK
         refine goes_ Try.func152 (by kernel_rfl) rfl #[.pointer (some ⟨BY, 0, none⟩)] (by rfl) rfl rfl (by (try simp only [List.map_toArray, List.map_cons, List.map_nil]); first | done | rfl) ?_
         refine (look_is (HY.out.below HBD.out (Nat.le_refl _)) HBY.out).mono ?_
         rintro e w4 ⟨A11, c11, rfl, hc11, hb⟩
         refine ⟨_, rfl, ?_⟩
         have HC11 := Lib.hid hc11
         clear hc11
         have HK12 := Lib.hid (HK12.out.below hb HK12.out.lt)
         have HC5 := Lib.hid (Kd.C_below HC5.out hb)
         have HK13 := Lib.hid (HK13.out.below hb HK13.out.lt)
         have HLT12 := Lib.hid (Nat.lt_of_lt_of_le HLT12.out hb.size)
         have HLT13 := Lib.hid (Nat.lt_of_lt_of_le HLT13.out hb.size)
         have HBD := Lib.hid (HBD.out.trans (hb.mono HBD.out.size))
         clear hb
         have hst := HS.out.below HBD.out HS.out.lt
         refine hK.out _ _ ⟨hst.c0, hst.c1⟩ (fun hHeld => ?_)
         clear hK K hst
         refine norm_ (a' := ?_) ?_ ?_
         rotate_left
         · show Act.put _ (some 18) _ = _
           simp only [Act.put, sA_, sB_, sC_, i64_w, i32_w]
           rfl
         exact norm_ (by rfl) (hcont (A5, c5, A11, c11, _, _) _ ⟨HS.out.below HBD.out HS.out.lt, HC5.out, HC11.out, HK12.out, HK13.out, HNE.out, HP12.out, HP13.out, HBD.out⟩)
     · skip
       intro K hK
       refine value_ (w1 := ?_) (v := ?_) (by rfl) rfl ?_ ?_
       rotate_left 2
       · go_simp
         constructor
         · rfl
         · rfl
       have hb : Below (w0.drew.alloc (.cells #[.slice none 0 0, .int .u64 0, .bool false] 165)).heap.size (w0.drew.alloc (.cells #[.slice none 0 0, .int .u64 0, .bool false] 165)) ((w0.drew.alloc (.cells #[.slice none 0 0, .int .u64 0, .bool false] 165)).alloc (.cells #[.slice none 0 0, .int .u64 0, .bool false] 165)) := (Below.refl _ _).alloc (Nat.le_refl _) _
       have HK12 := Lib.hid (HK12.out.below hb HK12.out.lt)
       have HK13 : Hid (HeldAt ((w0.drew.alloc (.cells #[.slice none 0 0, .int .u64 0, .bool false] 165)).alloc (.cells #[.slice none 0 0, .int .u64 0, .bool false] 165)) (w0.drew.alloc (.cells #[.slice none 0 0, .int .u64 0, .bool false] 165)).heap.size (.slice none 0 0) (.int .u64 0) (.bool false)) := Lib.hid (World.alloc_heap_new (w0.drew.alloc (.cells #[.slice none 0 0, .int .u64 0, .bool false] 165)) _)
       have HP13 : Hid (w0.heap.size ≤ (w0.drew.alloc (.cells #[.slice none 0 0, .int .u64 0, .bool false] 165)).heap.size) := Lib.hid HBD.out.size
       have HNE : Hid (w0.drew.heap.size ≠ (w0.drew.alloc (.cells #[.slice none 0 0, .int .u64 0, .bool false] 165)).heap.size) := Lib.hid (by have := HLT12.out; omega)
       have HLT13 : Hid ((w0.drew.alloc (.cells #[.slice none 0 0, .int .u64 0, .bool false] 165)).heap.size < ((w0.drew.alloc (.cells #[.slice none 0 0, .int .u64 0, .bool false] 165)).alloc (.cells #[.slice none 0 0, .int .u64 0, .bool false] 165)).heap.size) := Lib.hid HK13.out.lt
       have HK13 := by have h := HK13.out; rw [World.size_alloc] at h; exact Lib.hid h
       have HP13 := by have h := HP13.out; rw [World.size_alloc] at h; exact Lib.hid h
       have HNE := by have h := HNE.out; rw [World.size_alloc] at h; exact Lib.hid h
       have HLT12 := Lib.hid (Nat.lt_of_lt_of_le HLT12.out hb.size)
       have HBD := Lib.hid (HBD.out.trans (hb.mono HBD.out.size))
       clear hb
       have hst := HS.out.below HBD.out HS.out.lt
       refine hK.out _ _ ⟨hst.c0, hst.c1⟩ (fun hHeld => ?_)
       clear hK K hst
       refine norm_ (a' := ?_) ?_ ?_
       rotate_left
       · show Act.put _ (some 5) _ = _
         simp only [Act.put, sA_, sB_, sC_, i64_w, i32_w]
         rfl
       refine one_ (i := 5) (N := (some 12)) #[true, true, true, true, true, true, true, true, true, true, true, false, true, true, false, false] rfl rfl (one_of HT_.out (by kernel_rfl)) (by decide) ?_
       intro K hK
       refine goes_ Try.func152 (by kernel_rfl) rfl #[.pointer (some ⟨BX, 0, none⟩)] (by rfl) rfl rfl (by (try simp only [List.map_toArray, List.map_cons, List.map_nil]); first | done | rfl) ?_
       refine (look_is (HX.out.below HBD.out (Nat.le_refl _)) HBX.out).mono ?_
       rintro e w3 ⟨A5, c5, rfl, hc5, hb⟩
       refine ⟨_, rfl, ?_⟩
       have HC5 := Lib.hid hc5
       clear hc5
       have HK12 := Lib.hid (HK12.out.below hb HK12.out.lt)
       have HK13 := Lib.hid (HK13.out.below hb HK13.out.lt)
       have HLT12 := Lib.hid (Nat.lt_of_lt_of_le HLT12.out hb.size)
       have HLT13 := Lib.hid (Nat.lt_of_lt_of_le HLT13.out hb.size)
       have HBD := Lib.hid (HBD.out.trans (hb.mono HBD.out.size))
       clear hb
       have hst := HS.out.below HBD.out HS.out.lt
       refine hK.out _ _ ⟨hst.c0, hst.c1⟩ (fun hHeld => ?_)
       clear hK K hst
       refine norm_ (a' := ?_) ?_ ?_
       rotate_left
       · show Act.put _ (some 12) _ = _
         simp only [Act.put, sA_, sB_, sC_, i64_w, i32_w]
         rfl
       refine one_ (i := 11) (N := (some 18)) #[true, true, true, true, true, true, true, true, true, true, true, true, true, true, false, false] rfl rfl (one_of HT_.out (by kernel_rfl)) (by decide) ?_
       intro K hK
       refine goes_ Try.func152 (by kernel_rfl) rfl #[.pointer (some ⟨BY, 0, none⟩)] (by rfl) rfl rfl (by (try simp only [List.map_toArray, List.map_cons, List.map_nil]); first | done | rfl) ?_
       refine (look_is (HY.out.below HBD.out (Nat.le_refl _)) HBY.out).mono ?_
       rintro e w4 ⟨A11, c11, rfl, hc11, hb⟩
       refine ⟨_, rfl, ?_⟩
       have HC11 := Lib.hid hc11
       clear hc11
       have HK12 := Lib.hid (HK12.out.below hb HK12.out.lt)
       have HK13 := Lib.hid (HK13.out.below hb HK13.out.lt)
       have HC5 := Lib.hid (Kd.C_below HC5.out hb)
       have HLT12 := Lib.hid (Nat.lt_of_lt_of_le HLT12.out hb.size)
       have HLT13 := Lib.hid (Nat.lt_of_lt_of_le HLT13.out hb.size)
       have HBD := Lib.hid (HBD.out.trans (hb.mono HBD.out.size))
       clear hb
       have hst := HS.out.below HBD.out HS.out.lt
       refine hK.out _ _ ⟨hst.c0, hst.c1⟩ (fun hHeld => ?_)
       clear hK K hst
       refine norm_ (a' := ?_) ?_ ?_
       rotate_left
       · show Act.put _ (some 18) _ = _
         simp only [Act.put, sA_, sB_, sC_, i64_w, i32_w]
         rfl
       exact norm_ (by rfl) (hcont (A5, c5, A11, c11, _, _) _ ⟨HS.out.below HBD.out HS.out.lt, HC5.out, HC11.out, HK12.out, HK13.out, HNE.out, HP12.out, HP13.out, HBD.out⟩)
   · skip
     intro K hK
     refine value_ (w1 := ?_) (v := ?_) (by rfl) rfl ?_ ?_
     rotate_left 2
     · go_simp
       constructor
       · rfl
       · rfl
     have hb : Below w0.drew.heap.size w0.drew (w0.drew.alloc (.cells #[.slice none 0 0, .int .u64 0, .bool false] 165)) := (Below.refl _ _).alloc (Nat.le_refl _) _
     have HK13 : Hid (HeldAt (w0.drew.alloc (.cells #[.slice none 0 0, .int .u64 0, .bool false] 165)) w0.drew.heap.size (.slice none 0 0) (.int .u64 0) (.bool false)) := Lib.hid (World.alloc_heap_new w0.drew _)
     have HP13 : Hid (w0.heap.size ≤ w0.drew.heap.size) := Lib.hid HBD.out.size
     have HLT13 : Hid (w0.drew.heap.size < (w0.drew.alloc (.cells #[.slice none 0 0, .int .u64 0, .bool false] 165)).heap.size) := Lib.hid HK13.out.lt
     have HBD := Lib.hid (HBD.out.trans (hb.mono HBD.out.size))
     clear hb
     have hst := HS.out.below HBD.out HS.out.lt
     refine hK.out _ _ ⟨hst.c0, hst.c1⟩ (fun hHeld => ?_)
     clear hK K hst
     refine norm_ (a' := ?_) ?_ ?_
     rotate_left
     · show Act.put _ (some 5) _ = _
       simp only [Act.put, sA_, sB_, sC_, i64_w, i32_w]
       rfl
     refine two_ (i := 5) (j := 12) (Ni := (some 12)) (Nj := (some 4)) #[true, true, true, true, true, true, true, true, true, true, true, false, false, true, false, false] #[true, true, true, true, true, false, true, true, true, true, true, false, true, true, false, false] rfl rfl rfl rfl (two_of HT_.out (by kernel_rfl)) (by decide) (by decide) ?_ ?_
     · skip
       intro K hK
       refine goes_ Try.func152 (by kernel_rfl) rfl #[.pointer (some ⟨BX, 0, none⟩)] (by rfl) rfl rfl (by (try simp only [List.map_toArray, List.map_cons, List.map_nil]); first | done | rfl) ?_
       refine (look_is (HX.out.below HBD.out (Nat.le_refl _)) HBX.out).mono ?_
       rintro e w2 ⟨A5, c5, rfl, hc5, hb⟩
       refine ⟨_, rfl, ?_⟩
       have HC5 := Lib.hid hc5
       clear hc5
       have HK13 := Lib.hid (HK13.out.below hb HK13.out.lt)
       have HLT13 := Lib.hid (Nat.lt_of_lt_of_le HLT13.out hb.size)
       have HBD := Lib.hid (HBD.out.trans (hb.mono HBD.out.size))
       clear hb
       have hst := HS.out.below HBD.out HS.out.lt
       refine hK.out _ _ ⟨hst.c0, hst.c1⟩ (fun hHeld => ?_)
       clear hK K hst
       refine norm_ (a' := ?_) ?_ ?_
       rotate_left
       · show Act.put _ (some 12) _ = _
         simp only [Act.put, sA_, sB_, sC_, i64_w, i32_w]
         rfl
       refine two_ (i := 11) (j := 12) (Ni := (some 18)) (Nj := (some 4)) #[true, true, true, true, true, true, true, true, true, true, true, true, false, true, false, false] #[true, true, true, true, true, true, true, true, true, true, true, false, true, true, false, false] rfl rfl rfl rfl (two_of HT_.out (by kernel_rfl)) (by decide) (by decide) ?_ ?_
       · skip
         intro K hK
         refine goes_ Try.func152 (by kernel_rfl) rfl #[.pointer (some ⟨BY, 0, none⟩)] (by rfl) rfl rfl (by (try simp only [List.map_toArray, List.map_cons, List.map_nil]); first | done | rfl) ?_
         refine (look_is (HY.out.below HBD.out (Nat.le_refl _)) HBY.out).mono ?_
         rintro e w3 ⟨A11, c11, rfl, hc11, hb⟩
         refine ⟨_, rfl, ?_⟩
         have HC11 := Lib.hid hc11
         clear hc11
         have HK13 := Lib.hid (HK13.out.below hb HK13.out.lt)
         have HC5 := Lib.hid (Kd.C_below HC5.out hb)
         have HLT13 := Lib.hid (Nat.lt_of_lt_of_le HLT13.out hb.size)
         have HBD := Lib.hid (HBD.out.trans (hb.mono HBD.out.size))
         clear hb
         have hst := HS.out.below HBD.out HS.out.lt
         refine hK.out _ _ ⟨hst.c0, hst.c1⟩ (fun hHeld => ?_)
         clear hK K hst
         refine norm_ (a' := ?_) ?_ ?_
         rotate_left
         · show Act.put _ (some 18) _ = _
           simp only [Act.put, sA_, sB_, sC_, i64_w, i32_w]
           rfl
         refine one_ (i := 12) (N := (some 4)) #[true, true, true, true, true, true, true, true, true, true, true, true, true, true, false, false] rfl rfl (one_of HT_.out (by kernel_rfl)) (by decide) ?_
         intro K hK
         refine value_ (w1 := ?_) (v := ?_) (by rfl) rfl ?_ ?_
         rotate_left 2
         · go_simp
           constructor
           · rfl
           · rfl
         have hb : Below w3.heap.size w3 (w3.alloc (.cells #[.slice none 0 0, .int .u64 0, .bool false] 165)) := (Below.refl _ _).alloc (Nat.le_refl _) _
         have HK13 := Lib.hid (HK13.out.below hb HK13.out.lt)
         have HC5 := Lib.hid (Kd.C_below HC5.out hb)
         have HC11 := Lib.hid (Kd.C_below HC11.out hb)
         have HK12 : Hid (HeldAt (w3.alloc (.cells #[.slice none 0 0, .int .u64 0, .bool false] 165)) w3.heap.size (.slice none 0 0) (.int .u64 0) (.bool false)) := Lib.hid (World.alloc_heap_new w3 _)
         have HP12 : Hid (w0.heap.size ≤ w3.heap.size) := Lib.hid HBD.out.size
         have HNE : Hid (w3.heap.size ≠ w0.drew.heap.size) := Lib.hid (by have := HLT13.out; omega)
         have HLT12 : Hid (w3.heap.size < (w3.alloc (.cells #[.slice none 0 0, .int .u64 0, .bool false] 165)).heap.size) := Lib.hid HK12.out.lt
         have HLT13 := Lib.hid (Nat.lt_of_lt_of_le HLT13.out hb.size)
         have HBD := Lib.hid (HBD.out.trans (hb.mono HBD.out.size))
         clear hb
         have hst := HS.out.below HBD.out HS.out.lt
         refine hK.out _ _ ⟨hst.c0, hst.c1⟩ (fun hHeld => ?_)
         clear hK K hst
         refine norm_ (a' := ?_) ?_ ?_
         rotate_left
         · show Act.put _ (some 4) _ = _
           simp only [Act.put, sA_, sB_, sC_, i64_w, i32_w]
           rfl
         exact norm_ (by rfl) (hcont (A5, c5, A11, c11, _, _) _ ⟨HS.out.below HBD.out HS.out.lt, HC5.out, HC11.out, HK12.out, HK13.out, HNE.out, HP12.out, HP13.out, HBD.out⟩)
       · skip
         intro K hK
         refine value_ (w1 := ?_) (v := ?_) (by rfl) rfl ?_ ?_
         rotate_left 2
         · go_simp
           constructor
           · rfl
           · rfl
         have hb : Below w2.heap.size w2 (w2.alloc (.cells #[.slice none 0 0, .int .u64 0, .bool false] 165)) := (Below.refl _ _).alloc (Nat.le_refl _) _
         have HK13 := Lib.hid (HK13.out.below hb HK13.out.lt)
         have HC5 := Lib.hid (Kd.C_below HC5.out hb)
         have HK12 : Hid (HeldAt (w2.alloc (.cells #[.slice none 0 0, .int .u64 0, .bool false] 165)) w2.heap.size (.slice none 0 0) (.int .u64 0) (.bool false)) := Lib.hid (World.alloc_heap_new w2 _)
         have HP12 : Hid (w0.heap.size ≤ w2.heap.size) := Lib.hid HBD.out.size
         have HNE : Hid (w2.heap.size ≠ w0.drew.heap.size) := Lib.hid (by have := HLT13.out; omega)
         have HLT12 : Hid (w2.heap.size < (w2.alloc (.cells #[.slice none 0 0, .int .u64 0, .bool false] 165)).heap.size) := Lib.hid HK12.out.lt
         have HLT13 := Lib.hid (Nat.lt_of_lt_of_le HLT13.out hb.size)
         have HBD := Lib.hid (HBD.out.trans (hb.mono HBD.out.size))
         clear hb
         have hst := HS.out.below HBD.out HS.out.lt
         refine hK.out _ _ ⟨hst.c0, hst.c1⟩ (fun hHeld => ?_)
         clear hK K hst
         refine norm_ (a' := ?_) ?_ ?_
         rotate_left
         · show Act.put _ (some 4) _ = _
           simp only [Act.put, sA_, sB_, sC_, i64_w, i32_w]
           rfl
         refine one_ (i := 11) (N := (some 18)) #[true, true, true, true, true, true, true, true, true, true, true, true, true, true, false, false] rfl rfl (one_of HT_.out (by kernel_rfl)) (by decide) ?_
         intro K hK
         refine goes_ Try.func152 (by kernel_rfl) rfl #[.pointer (some ⟨BY, 0, none⟩)] (by rfl) rfl rfl (by (try simp only [List.map_toArray, List.map_cons, List.map_nil]); first | done | rfl) ?_
         refine (look_is (HY.out.below HBD.out (Nat.le_refl _)) HBY.out).mono ?_
         rintro e w4 ⟨A11, c11, rfl, hc11, hb⟩
         refine ⟨_, rfl, ?_⟩
         have HC11 := Lib.hid hc11
         clear hc11
         have HK13 := Lib.hid (HK13.out.below hb HK13.out.lt)
         have HC5 := Lib.hid (Kd.C_below HC5.out hb)
         have HK12 := Lib.hid (HK12.out.below hb HK12.out.lt)
         have HLT13 := Lib.hid (Nat.lt_of_lt_of_le HLT13.out hb.size)
         have HLT12 := Lib.hid (Nat.lt_of_lt_of_le HLT12.out hb.size)
         have HBD := Lib.hid (HBD.out.trans (hb.mono HBD.out.size))
         clear hb
         have hst := HS.out.below HBD.out HS.out.lt
         refine hK.out _ _ ⟨hst.c0, hst.c1⟩ (fun hHeld => ?_)
         clear hK K hst
         refine norm_ (a' := ?_) ?_ ?_
         rotate_left
         · show Act.put _ (some 18) _ = _
           simp only [Act.put, sA_, sB_, sC_, i64_w, i32_w]
           rfl
         exact norm_ (by rfl) (hcont (A5, c5, A11, c11, _, _) _ ⟨HS.out.below HBD.out HS.out.lt, HC5.out, HC11.out, HK12.out, HK13.out, HNE.out, HP12.out, HP13.out, HBD.out⟩)
     · skip
       intro K hK
       refine value_ (w1 := ?_) (v := ?_) (by rfl) rfl ?_ ?_
       rotate_left 2
       · go_simp
         constructor
         · rfl
         · rfl
       have hb : Below (w0.drew.alloc (.cells #[.slice none 0 0, .int .u64 0, .bool false] 165)).heap.size (w0.drew.alloc (.cells #[.slice none 0 0, .int .u64 0, .bool false] 165)) ((w0.drew.alloc (.cells #[.slice none 0 0, .int .u64 0, .bool false] 165)).alloc (.cells #[.slice none 0 0, .int .u64 0, .bool false] 165)) := (Below.refl _ _).alloc (Nat.le_refl _) _
       have HK13 := Lib.hid (HK13.out.below hb HK13.out.lt)
       have HK12 : Hid (HeldAt ((w0.drew.alloc (.cells #[.slice none 0 0, .int .u64 0, .bool false] 165)).alloc (.cells #[.slice none 0 0, .int .u64 0, .bool false] 165)) (w0.drew.alloc (.cells #[.slice none 0 0, .int .u64 0, .bool false] 165)).heap.size (.slice none 0 0) (.int .u64 0) (.bool false)) := Lib.hid (World.alloc_heap_new (w0.drew.alloc (.cells #[.slice none 0 0, .int .u64 0, .bool false] 165)) _)
       have HP12 : Hid (w0.heap.size ≤ (w0.drew.alloc (.cells #[.slice none 0 0, .int .u64 0, .bool false] 165)).heap.size) := Lib.hid HBD.out.size
       have HNE : Hid ((w0.drew.alloc (.cells #[.slice none 0 0, .int .u64 0, .bool false] 165)).heap.size ≠ w0.drew.heap.size) := Lib.hid (by have := HLT13.out; omega)
       have HLT12 : Hid ((w0.drew.alloc (.cells #[.slice none 0 0, .int .u64 0, .bool false] 165)).heap.size < ((w0.drew.alloc (.cells #[.slice none 0 0, .int .u64 0, .bool false] 165)).alloc (.cells #[.slice none 0 0, .int .u64 0, .bool false] 165)).heap.size) := Lib.hid HK12.out.lt
       have HK12 := by have h := HK12.out; rw [World.size_alloc] at h; exact Lib.hid h
       have HP12 := by have h := HP12.out; rw [World.size_alloc] at h; exact Lib.hid h
       have HNE := by have h := HNE.out; rw [World.size_alloc] at h; exact Lib.hid h
       have HLT13 := Lib.hid (Nat.lt_of_lt_of_le HLT13.out hb.size)
       have HBD := Lib.hid (HBD.out.trans (hb.mono HBD.out.size))
       clear hb
       have hst := HS.out.below HBD.out HS.out.lt
       refine hK.out _ _ ⟨hst.c0, hst.c1⟩ (fun hHeld => ?_)
       clear hK K hst
       refine norm_ (a' := ?_) ?_ ?_
       rotate_left
       · show Act.put _ (some 4) _ = _
         simp only [Act.put, sA_, sB_, sC_, i64_w, i32_w]
         rfl
       refine one_ (i := 5) (N := (some 12)) #[true, true, true, true, true, true, true, true, true, true, true, false, true, true, false, false] rfl rfl (one_of HT_.out (by kernel_rfl)) (by decide) ?_
       intro K hK
       refine goes_ Try.func152 (by kernel_rfl) rfl #[.pointer (some ⟨BX, 0, none⟩)] (by rfl) rfl rfl (by (try simp only [List.map_toArray, List.map_cons, List.map_nil]); first | done | rfl) ?_
       refine (look_is (HX.out.below HBD.out (Nat.le_refl _)) HBX.out).mono ?_
       rintro e w3 ⟨A5, c5, rfl, hc5, hb⟩
       refine ⟨_, rfl, ?_⟩
       have HC5 := Lib.hid hc5
       clear hc5
       have HK13 := Lib.hid (HK13.out.below hb HK13.out.lt)
       have HK12 := Lib.hid (HK12.out.below hb HK12.out.lt)
       have HLT13 := Lib.hid (Nat.lt_of_lt_of_le HLT13.out hb.size)
       have HLT12 := Lib.hid (Nat.lt_of_lt_of_le HLT12.out hb.size)
       have HBD := Lib.hid (HBD.out.trans (hb.mono HBD.out.size))
       clear hb
       have hst := HS.out.below HBD.out HS.out.lt
       refine hK.out _ _ ⟨hst.c0, hst.c1⟩ (fun hHeld => ?_)
       clear hK K hst
       refine norm_ (a' := ?_) ?_ ?_
       rotate_left
       · show Act.put _ (some 12) _ = _
         simp only [Act.put, sA_, sB_, sC_, i64_w, i32_w]
         rfl
       refine one_ (i := 11) (N := (some 18)) #[true, true, true, true, true, true, true, true, true, true, true, true, true, true, false, false] rfl rfl (one_of HT_.out (by kernel_rfl)) (by decide) ?_
       intro K hK
       refine goes_ Try.func152 (by kernel_rfl) rfl #[.pointer (some ⟨BY, 0, none⟩)] (by rfl) rfl rfl (by (try simp only [List.map_toArray, List.map_cons, List.map_nil]); first | done | rfl) ?_
       refine (look_is (HY.out.below HBD.out (Nat.le_refl _)) HBY.out).mono ?_
       rintro e w4 ⟨A11, c11, rfl, hc11, hb⟩
       refine ⟨_, rfl, ?_⟩
       have HC11 := Lib.hid hc11
       clear hc11
       have HK13 := Lib.hid (HK13.out.below hb HK13.out.lt)
       have HK12 := Lib.hid (HK12.out.below hb HK12.out.lt)
       have HC5 := Lib.hid (Kd.C_below HC5.out hb)
       have HLT13 := Lib.hid (Nat.lt_of_lt_of_le HLT13.out hb.size)
       have HLT12 := Lib.hid (Nat.lt_of_lt_of_le HLT12.out hb.size)
       have HBD := Lib.hid (HBD.out.trans (hb.mono HBD.out.size))
       clear hb
       have hst := HS.out.below HBD.out HS.out.lt
       refine hK.out _ _ ⟨hst.c0, hst.c1⟩ (fun hHeld => ?_)
       clear hK K hst
       refine norm_ (a' := ?_) ?_ ?_
       rotate_left
       · show Act.put _ (some 18) _ = _
         simp only [Act.put, sA_, sB_, sC_, i64_w, i32_w]
         rfl
       exact norm_ (by rfl) (hcont (A5, c5, A11, c11, _, _) _ ⟨HS.out.below HBD.out HS.out.lt, HC5.out, HC11.out, HK12.out, HK13.out, HNE.out, HP12.out, HP13.out, HBD.out⟩)
 rintro ⟨A1, c1, A2, c2, P4, P5⟩ w3 hN
 obtain ⟨⟨bx, gx, ix⟩, hhx⟩ : ∃ r, heldF xs = r := ⟨_, rfl⟩
 obtain ⟨⟨byy, gy, iy⟩, hhy⟩ : ∃ r, heldF ys = r := ⟨_, rfl⟩
 rw [hhx, hhy] at hN ⊢
 have HN := Lib.hid hN
 have hN4 : Hid (S < P4 ∧ S < P5 ∧ w.heap.size < P4 ∧ w.heap.size < P5) := Lib.hid (by have h1 : w0.heap.size ≤ P4 := hN.p4; have h2 : w0.heap.size ≤ P5 := hN.p5; have := HZ0.out; omega)
 have k4 := hN.k4
 have a0 := k4.c0
 have a1 := k4.c1
 have a2 := k4.c2
 have f0 := k4.f 0
 have f1 := k4.f 1
 have f2 := k4.f 2
 have HHX := Lib.hid hhx
 have HHY := Lib.hid hhy
 clear hN k4 hhx hhy
 refine norm_ (a' := ?_) ?_ ?_
 rotate_left
 · simp only [putAll, Act.put, sA_, sB_, sC_, i64_w, i32_w]
   rfl
 refine one_ (i := 14) (N := none) #[true, true, true, true, true, true, true, true, true, true, true, true, true, true, true, false] rfl rfl (one_of HT_.out (by kernel_rfl)) (by decide) ?_
 intro K hK
 refine skip_ (w1 := set3 w3 P4 (.slice A1 bx.length c1) (.int .u64 gx) (.bool ix)) (by rfl) rfl ?_ ?_
 · unfold hval set3
   go_simp
 clear a0 a1 a2 f0 f1 f2
 have h4 := HN.out
 have st4 : StoreS (set3 w3 P4 (.slice A1 bx.length c1) (.int .u64 gx) (.bool ix)) S BX BY := h4.st.move (set3_heap _ _ _ _ _ _ (by have := hN4.out; omega))
 have q4 : HeldAt (set3 w3 P4 (.slice A1 bx.length c1) (.int .u64 gx) (.bool ix)) P4 (.slice A1 bx.length c1) (.int .u64 gx) (.bool ix) := h4.k4.put _ _ _
 have q5 : HeldAt (set3 w3 P4 (.slice A1 bx.length c1) (.int .u64 gx) (.bool ix)) P5 (.slice none 0 0) (.int .u64 0) (.bool false) := (set3_heap _ _ _ _ _ _ h4.ne.symm).trans h4.k5
 have cx : Kd.C (Kd.int .u8) (set3 w3 P4 (.slice A1 bx.length c1) (.int .u64 gx) (.bool ix)) A1 bx.length bx := C_held h4.x h4.k4 (fun k hk => set3_heap _ _ _ _ _ _ hk)
 have cy : Kd.C (Kd.int .u8) (set3 w3 P4 (.slice A1 bx.length c1) (.int .u64 gx) (.bool ix)) A2 byy.length byy := C_held h4.y h4.k4 (fun k hk => set3_heap _ _ _ _ _ _ hk)
 have b4 : Below w0.heap.size w0 (set3 w3 P4 (.slice A1 bx.length c1) (.int .u64 gx) (.bool ix)) := set3_below h4.be _ h4.p4 _ _ _
 have ne := h4.ne
 have p5 := h4.p5
 have p4 := h4.p4
 clear h4 HN
 refine hK.out _ _ ⟨st4.c0, st4.c1⟩ (fun hHeld => ?_)
 clear hK K
 obtain ⟨w4, hw4⟩ : ∃ w4, set3 w3 P4 (.slice A1 bx.length c1) (.int .u64 gx) (.bool ix) = w4 := ⟨_, rfl⟩
 rw [hw4] at st4 q4 q5 cx cy b4 hHeld ⊢
 clear hw4
 have H4 : Hid (StoreS w4 S BX BY ∧ HeldAt w4 P4 (.slice A1 bx.length c1) (.int .u64 gx) (.bool ix) ∧ HeldAt w4 P5 (.slice none 0 0) (.int .u64 0) (.bool false) ∧ Kd.C (Kd.int .u8) w4 A1 bx.length bx ∧ Kd.C (Kd.int .u8) w4 A2 byy.length byy ∧ Below w0.heap.size w0 w4 ∧ P4 ≠ P5 ∧ w0.heap.size ≤ P4 ∧ w0.heap.size ≤ P5) := Lib.hid ⟨st4, q4, q5, cx, cy, b4, ne, p4, p5⟩
 have a0 := q5.c0
 have a1 := q5.c1
 have a2 := q5.c2
 have f0 := q5.f 0
 have f1 := q5.f 1
 have f2 := q5.f 2
 clear st4 q4 q5 cx cy b4 ne p4 p5 HBD hS0
 refine one_ (i := 15) (N := none) #[true, true, true, true, true, true, true, true, true, true, true, true, true, true, true, true] rfl rfl (one_of HT_.out (by kernel_rfl)) (by decide) ?_
 intro K hK
 refine skip_ (w1 := set3 w4 P5 (.slice A2 byy.length c2) (.int .u64 gy) (.bool iy)) (by rfl) rfl ?_ ?_
 · unfold hval set3
   go_simp
 clear a0 a1 a2 f0 f1 f2
 obtain ⟨h1, h2, h3, h4, h5, h6, h7, h8, h9⟩ := H4.out
 have st4 : StoreS (set3 w4 P5 (.slice A2 byy.length c2) (.int .u64 gy) (.bool iy)) S BX BY := h1.move (set3_heap _ _ _ _ _ _ (by have := hN4.out; omega))
 have q4 : HeldAt (set3 w4 P5 (.slice A2 byy.length c2) (.int .u64 gy) (.bool iy)) P4 (.slice A1 bx.length c1) (.int .u64 gx) (.bool ix) := (set3_heap _ _ _ _ _ _ h7).trans h2
 have q5 : HeldAt (set3 w4 P5 (.slice A2 byy.length c2) (.int .u64 gy) (.bool iy)) P5 (.slice A2 byy.length c2) (.int .u64 gy) (.bool iy) := h3.put _ _ _
 have cx : Kd.C (Kd.int .u8) (set3 w4 P5 (.slice A2 byy.length c2) (.int .u64 gy) (.bool iy)) A1 bx.length bx := C_held h4 h3 (fun k hk => set3_heap _ _ _ _ _ _ hk)
 have cy : Kd.C (Kd.int .u8) (set3 w4 P5 (.slice A2 byy.length c2) (.int .u64 gy) (.bool iy)) A2 byy.length byy := C_held h5 h3 (fun k hk => set3_heap _ _ _ _ _ _ hk)
 have b4 : Below w0.heap.size w0 (set3 w4 P5 (.slice A2 byy.length c2) (.int .u64 gy) (.bool iy)) := set3_below h6 _ h9 _ _ _
 refine hK.out _ _ ⟨st4.c0, st4.c1⟩ (fun hHeld => ?_)
 clear hK K
 obtain ⟨w5, hw5⟩ : ∃ w5, set3 w4 P5 (.slice A2 byy.length c2) (.int .u64 gy) (.bool iy) = w5 := ⟨_, rfl⟩
 rw [hw5] at st4 q4 q5 cx cy b4 hHeld ⊢
 clear hw5 h1 h2 h3 h4 h5 h6 h7 h8 h9 H4
 refine done_ (done_of HT_.out (by kernel_rfl)) ?_
 have q0 : HeldAt w5 w.heap.size (.slice none 0 0) (.int .u64 0) (.bool false) := HK0.out.below b4 (by have := HZ0.out; omega)
 have b5 : Below w.heap.size w w5 := HB0.out.trans (b4.mono HB0.out.size)
 have r0 := q0.c0
 have r1 := q0.c1
 have r2 := q0.c2
 have g0 := q0.f 0
 have g1 := q0.f 1
 have g2 := q0.f 2
 have x0 := q4.c0
 have x1 := q4.c1
 have x2 := q4.c2
 have y0 := q5.c0
 have y1 := q5.c1
 have y2 := q5.c2
 have HQ := Lib.hid (And.intro q4 q5)
 have HQ0 := Lib.hid q0
 have HCX := Lib.hid cx
 have HCY := Lib.hid cy
 have HB5 := Lib.hid b5
 clear st4 q4 q5 cx cy b4 q0 b5 hHeld HT_ HW_ HS HX HY HBX HBY HK0
 have hf : firstF (bx, gx, ix) (byy, gy, iy) = (ix && (!iy || decide (gy ≤ gx))) := rfl
 have hnew : nw = if (ix && (!iy || decide (gy ≤ gx))) = true then ((bx, gx, ix), 1) else if iy = true then ((byy, gy, iy), 0) else (([], 0, false), 0) := by rw [← HNW.out, HHX.out, HHY.out]; rfl
 clear hf
 obtain ⟨ff, hff⟩ : ∃ ff, (ix && (!iy || decide (gy ≤ gx))) = ff := ⟨_, rfl⟩
 rw [hff] at hnew
 have HFF := Lib.hid hff
 clear hff
 cases ff
 · cases iy
   · rw [if_neg (by simp), if_neg (by simp)] at hnew
     subst hnew
     go_wp2_with (go_at_call 153; refine (first_is HQ.out.1 HQ.out.2).mono ?_; rintro e w' ⟨rfl, rfl⟩; rw [HFF.out])
     have HP := Lib.hid (HQ0.out.put (.slice none 0 0) (.int .u64 0) (.bool false))
     have d0 := HP.out.c0
     have d1 := HP.out.c1
     have d2 := HP.out.c2
     refine bodyPost_ret (v := .tuple #[.agg #[.slice none 0 0, .int .u64 0, .bool false], .int .i64 0]) (by simp [results, Try.results114, go_sem, d0, d1, d2]) rfl ?_
     refine ⟨none, ⟨0, rfl⟩, ?_, ((HB5.out.setCell (Nat.le_refl _) _).setCell (Nat.le_refl _) _).setCell (Nat.le_refl _) _⟩
     exact C_nil _ _
   · rw [if_neg (by simp), if_pos rfl] at hnew
     subst hnew
     go_wp2_with (go_at_call 153; refine (first_is HQ.out.1 HQ.out.2).mono ?_; rintro e w' ⟨rfl, rfl⟩; rw [HFF.out])
     have HP := Lib.hid (HQ0.out.put (.slice A2 byy.length c2) (.int .u64 gy) (.bool true))
     have d0 := HP.out.c0
     have d1 := HP.out.c1
     have d2 := HP.out.c2
     refine bodyPost_ret (v := .tuple #[.agg #[.slice A2 byy.length c2, .int .u64 gy, .bool true], .int .i64 0]) (by simp [results, Try.results114, go_sem, d0, d1, d2]) rfl ?_
     refine ⟨A2, ⟨c2, rfl⟩, ?_, ((HB5.out.setCell (Nat.le_refl _) _).setCell (Nat.le_refl _) _).setCell (Nat.le_refl _) _⟩
     exact C_held HCY.out HQ0.out (fun k hk => set3_heap _ _ _ _ _ _ hk)
 · rw [if_pos rfl] at hnew
   subst hnew
   go_wp2_with (go_at_call 153; refine (first_is HQ.out.1 HQ.out.2).mono ?_; rintro e w' ⟨rfl, rfl⟩; rw [HFF.out])
   have HP := Lib.hid (HQ0.out.put (.slice A1 bx.length c1) (.int .u64 gx) (.bool ix))
   have d0 := HP.out.c0
   have d1 := HP.out.c1
   have d2 := HP.out.c2
   refine bodyPost_ret (v := .tuple #[.agg #[.slice A1 bx.length c1, .int .u64 gx, .bool ix], .int .i64 1]) (by simp [results, Try.results114, go_sem, d0, d1, d2]) rfl ?_
   refine ⟨A1, ⟨c1, rfl⟩, ?_, ((HB5.out.setCell (Nat.le_refl _) _).setCell (Nat.le_refl _) _).setCell (Nat.le_refl _) _⟩
   exact C_held HCX.out HQ0.out (fun k hk => set3_heap _ _ _ _ _ _ hk)
end Go.Proofs.Ytmbnjgnmblgjoaa.Man
end
section
namespace Go.Proofs.Ytmbnjgnmblgjoaa.Man
open Go.RowKit Go.Proofs.YtmbnjgnmblgjoaaW.PrintWords Go.Proofs.YtmbnjgnmblgjoaaW.PrintLast Go.Proofs.YtmbnjgnmblgjoaaW.PrintMore
set_option linter.unusedVariables false
set_option linter.unusedSimpArgs false
set_option maxRecDepth 100000
def NewPost (w : World) (h : Held) (o : Int) (e : Ending) (w' : World) : Prop := ∃ A c, e = .returned (.tuple #[hval A c h, .int .i64 o]) ∧ Kd.C (Kd.int .u8) w' A h.1.length h.1 ∧ Below w.heap.size w w'
theorem load_is {w : World} {S BX BY : Nat} (hS : StoreS w S BX BY) (h : Held) (o : Int) (hn : Calls Try.prog 114 #[.pointer (some ⟨S, 0, none⟩)] w (NewPost w h o)) :
 Calls Try.prog 57 #[.pointer (some ⟨S, 0, none⟩)] w fun e w' => ∃ A c, e = .returned (.tuple #[.slice A h.1.length c, .bool h.2.2]) ∧ Kd.C (Kd.int .u8) w' A h.1.length h.1 ∧ Below w.heap.size w w' := by
 have HS := Lib.hid hS
 have HN := Lib.hid hn
 clear hS hn
 obtain ⟨b, g, i⟩ := h
 simp only at HN ⊢
 go_enter Try.func57, Try.ntmps57
 go_wp2_with (first
  | (go_at_call 113; refine (snone_is HS.out).mono ?_; rintro e w' ⟨rfl, rfl⟩)
  | (go_at_call 114; refine HN.out.mono ?_; rintro e w1 ⟨A, c, rfl, hc, hb⟩; unfold hval; have hbe : Below w1.heap.size w1 (w1.alloc (.cells #[.slice A b.length c, .int .u64 g, .bool i] 165)) := (Below.refl _ _).alloc (Nat.le_refl _) _; have HC := Lib.hid (Kd.C_below hc hbe); have HB := Lib.hid (hb.trans (hbe.mono hb.size)); clear hc hb hbe))
 go_quiet (fail)
 go_wp2
 go_ret2
 first | exact ⟨A, c, rfl, Kd.C_below HC.out (pw_below_drewN (Below.refl _ _) _), pw_below_drewN HB.out _⟩ | exact ⟨A, ⟨c, rfl⟩, Kd.C_below HC.out (pw_below_drewN (Below.refl _ _) _), pw_below_drewN HB.out _⟩
theorem generation_is {w : World} {S BX BY : Nat} (hS : StoreS w S BX BY) (h : Held) (o : Int) (hn : Calls Try.prog 114 #[.pointer (some ⟨S, 0, none⟩)] w (NewPost w h o)) :
 Calls Try.prog 60 #[.pointer (some ⟨S, 0, none⟩)] w fun e w' => e = .returned (.int .u64 h.2.1) ∧ Below w.heap.size w w' := by
 have HS := Lib.hid hS
 have HN := Lib.hid hn
 clear hS hn
 obtain ⟨b, g, i⟩ := h
 simp only at HN ⊢
 go_enter Try.func60, Try.ntmps60
 go_wp2_with (first
  | (go_at_call 113; refine (snone_is HS.out).mono ?_; rintro e w' ⟨rfl, rfl⟩)
  | (go_at_call 114; refine HN.out.mono ?_; rintro e w1 ⟨A, c, rfl, hc, hb⟩; unfold hval; have hbe : Below w1.heap.size w1 (w1.alloc (.cells #[.slice A b.length c, .int .u64 g, .bool i] 165)) := (Below.refl _ _).alloc (Nat.le_refl _) _; have HB := Lib.hid (hb.trans (hbe.mono hb.size)); clear hc hb hbe))
 go_ret
 exact ⟨rfl, HB.out⟩
theorem DStep.trans {w w1 w2 : World} {B : Nat} {v v1 v2 : Value} (h : DStep w w1 B v v1) (k : DStep w1 w2 B v1 v2) : DStep w w2 B v v2 := by
 refine ⟨k.os.trans h.os, k.tape.trans h.tape, k.output.trans h.output, Nat.le_trans h.size k.size, fun j hj hB hv => (k.block j (by have := h.size; omega) hB ?_).trans (h.block j hj hB hv), ?_⟩
 · rcases h.row with e | ⟨b, e, hb⟩
   · rw [e]; exact hv
   · rw [e]; intro q; cases q; omega
 · rcases k.row with e | ⟨b, e, hb⟩
   · rw [e]; exact h.row
   · exact .inr ⟨b, e, by have := h.size; omega⟩
theorem DStep.of_below {w w1 : World} (B : Nat) (v : Value) (h : Below w.heap.size w w1) : DStep w w1 B v v := ⟨h.os, h.tape, h.output, h.size, fun k hk _ _ => h.block k hk, .inl rfl⟩
abbrev SaveV (B : Nat) (A : Option Addr) (n c : Nat) : Value := .agg #[.pointer (some ⟨B, 0, none⟩), .slice A n c]
theorem scut_is {w : World} {base B : Nat} {v : Value} {xs : List Int} {s m : Int} (h : DiskS w base B v xs s m) (A : Option Addr) (n c : Nat) :
 Calls Try.prog 116 #[SaveV B A n c] w fun e w' => e = .returned (.tuple #[]) ∧ ∃ v', DiskS w' base B v' [] 0 m ∧ DStep w w' B v v' := by
 have hbe : Below w.heap.size w (w.alloc (.cells #[.pointer (some ⟨B, 0, none⟩), .slice A n c] 169)) := (Below.refl _ _).alloc (Nat.le_refl _) _
 have H := Lib.hid (h.below hbe (Nat.le_refl _))
 have HD := Lib.hid (DStep.of_below B v hbe)
 clear h hbe
 unfold SaveV
 go_enter Try.func116, Try.ntmps116
 go_wp2_with (go_at_call 35; refine (cut_is H.out 0 (Nat.zero_le _)).mono ?_; rintro e w1 ⟨rfl, v1, hd, hs⟩; rw [List.take_zero] at hd; have HD1 := Lib.hid hd; have HS1 := Lib.hid (HD.out.trans hs); clear hd hs)
 go_end0
 exact ⟨rfl, v1, HD1.out, HS1.out⟩
theorem swrite_is {w : World} {base B : Nat} {v : Value} {s m : Int} (h : DiskS w base B v [] s m) (A : Option Addr) (c : Nat) (f : List Int) (hf : Kd.C (Kd.int .u8) w A f.length f) (hm : (f.length : Int) ≤ m) :
 Calls Try.prog 117 #[SaveV B A f.length c] w fun e w' => e = .returned (.tuple #[]) ∧ ∃ v', DiskS w' base B v' f s m ∧ DStep w w' B v v' := by
 have hbe : Below w.heap.size w (w.alloc (.cells #[.pointer (some ⟨B, 0, none⟩), .slice A f.length c] 169)) := (Below.refl _ _).alloc (Nat.le_refl _) _
 have H := Lib.hid (h.below hbe (Nat.le_refl _))
 have HF := Lib.hid (Kd.C_below hf hbe)
 have HD := Lib.hid (DStep.of_below B v hbe)
 clear h hbe hf
 unfold SaveV
 go_enter Try.func117, Try.ntmps117
 go_wp2_with (go_at_call 29; refine (append_is H.out A c HF.out (by simp only [List.length_nil]; omega)).mono ?_; rintro e w1 ⟨rfl, v1, hd, hs⟩; rw [List.nil_append] at hd; have HD1 := Lib.hid hd; have HS1 := Lib.hid (HD.out.trans hs); clear hd hs)
 go_end0
 exact ⟨rfl, v1, HD1.out, HS1.out⟩
theorem ssync_is {w : World} {base B : Nat} {v : Value} {xs : List Int} {s m : Int} (h : DiskS w base B v xs s m) (A : Option Addr) (n c : Nat) :
 Calls Try.prog 118 #[SaveV B A n c] w fun e w' => e = .returned (.tuple #[]) ∧ ∃ v', DiskS w' base B v' xs (xs.length : Int) m ∧ DStep w w' B v v' := by
 have hbe : Below w.heap.size w (w.alloc (.cells #[.pointer (some ⟨B, 0, none⟩), .slice A n c] 169)) := (Below.refl _ _).alloc (Nat.le_refl _) _
 have H := Lib.hid (h.below hbe (Nat.le_refl _))
 have HD := Lib.hid (DStep.of_below B v hbe)
 clear h hbe
 unfold SaveV
 go_enter Try.func118, Try.ntmps118
 go_wp2_with (go_at_call 32; refine (sync_is H.out).mono ?_; rintro e w1 ⟨rfl, hd, hs⟩; have HD1 := Lib.hid hd; have HS1 := Lib.hid (HD.out.trans hs); clear hd hs)
 go_end0
 exact ⟨rfl, v, HD1.out, HS1.out⟩
theorem sroom_is {w : World} {base B : Nat} {v : Value} {xs : List Int} {s m : Int} (h : DiskS w base B v xs s m) (A : Option Addr) (c : Nat) (f : List Int) (hf : Kd.C (Kd.int .u8) w A f.length f) (hm : (f.length : Int) ≤ m) :
 Calls Try.prog 115 #[SaveV B A f.length c] w fun e w' => e = .returned (.bool true) ∧ Below w.heap.size w w' := by
 have hbe : Below w.heap.size w (w.alloc (.cells #[.pointer (some ⟨B, 0, none⟩), .slice A f.length c] 169)) := (Below.refl _ _).alloc (Nat.le_refl _) _
 obtain ⟨w0, hw0⟩ : ∃ w0, w0 = w.alloc (.cells #[.pointer (some ⟨B, 0, none⟩), .slice A f.length c] 169) := ⟨_, rfl⟩
 have hz : w0.heap.size = w.heap.size + 1 := by rw [hw0]; exact World.size_alloc _ _
 have hk : w0.heap[w.heap.size]? = some (.cells #[.pointer (some ⟨B, 0, none⟩), .slice A f.length c] 169 (0, 0)) := by rw [hw0]; exact World.alloc_heap_new w _
 rw [← hw0] at hbe
 have H := Lib.hid (h.below hbe (Nat.le_refl _))
 have HF := Lib.hid (Kd.C_below hf hbe)
 have HB := Lib.hid hbe
 have HK := Lib.hid hk
 have HZ := Lib.hid hz
 have HW := Lib.hid hw0
 have hcell : ∀ W, Below w0.heap.size w0 W → W.cell? ⟨w.heap.size, 1, none⟩ = some (.slice A f.length c) := fun W hW => by
  have := (hW.block w.heap.size (by omega)).trans hk
  simp [World.cell?, this]
 have HCE := Lib.hid hcell
 clear h hbe hf hk hz hcell hw0
 unfold SaveV
 go_enter Try.func115, Try.ntmps115
 go_wp2_with (first
  | (go_at_call 37; rw [← HW.out]; refine (copy_is H.out).mono ?_; rintro e w1 ⟨B1, v1, rfl, hd, hb⟩; have HD1 := Lib.hid hd; have HB1 := Lib.hid hb; clear hd hb)
  | (go_at_call 35; refine (cut_is HD1.out 0 (Nat.zero_le _)).mono ?_; rintro e w2 ⟨rfl, v2, hd, hs⟩; rw [List.take_zero] at hd; have HD2 := Lib.hid hd; have hb2 := HB1.out.trans (hs.below HD1.out); have HB2 := Lib.hid hb2; have hc1 := HCE.out _ hb2; clear hd hs hb2)
  | (go_at_call 29; refine (append_is HD2.out A c (Kd.C_below HF.out HB2.out) (by simp only [List.length_nil]; omega)).mono ?_; rintro e w3 ⟨rfl, v3, hd, hs⟩; have HB3 := Lib.hid (HB2.out.trans (hs.below HD2.out)); clear hd hs))
 go_ret
 exact ⟨rfl, HB.out.trans (HB3.out.mono HB.out.size)⟩
end Go.Proofs.Ytmbnjgnmblgjoaa.Man
end
section
namespace Go.Proofs.Ytmbnjgnmblgjoaa.Man
open Go.RowKit Go.Proofs.YtmbnjgnmblgjoaaW.PrintWords Go.Proofs.YtmbnjgnmblgjoaaW.PrintLast Go.Proofs.YtmbnjgnmblgjoaaW.PrintMore
set_option linter.unusedVariables false
set_option linter.unusedSimpArgs false
set_option maxRecDepth 100000
theorem fidx0 (c0 c1 c2 : Value) (W : World) : (Instr.index 170 (.agg #[c0, c1, c2]) (.int .i64 0)).run Try.prog W = .ok c0 W := by kernel_rfl
theorem fidx1 (c0 c1 c2 : Value) (W : World) : (Instr.index 170 (.agg #[c0, c1, c2]) (.int .i64 1)).run Try.prog W = .ok c1 W := by kernel_rfl
theorem fidx2 (c0 c1 c2 : Value) (W : World) : (Instr.index 170 (.agg #[c0, c1, c2]) (.int .i64 2)).run Try.prog W = .ok c2 W := by kernel_rfl
theorem findex_ev {ops : Array Oper} {rest : List Oper} {o : Oper} {a : Act} {Q : Exit → Act → World → Prop} {w : World} (hgd : o.guard = none) (x i : Operand) (ho : o.op = .index 170 x i) {cs : Array Value} {k : Int} {v : Value}
 (hx : a.eval x = .agg cs) (hi : a.eval i = .int .i64 k) (hr : (Instr.index 170 (.agg cs) (.int .i64 k)).run Try.prog w = .ok v w) (h : wpList Try.prog ops Q rest (a.put o.dst v) w) : wpList Try.prog ops Q (o :: rest) a w := by
 refine Kd.event_run hgd ?_ h
 unfold execOp
 rw [ho]
 simp [hx, hi, hr]
def stepL (zs f : List Int) (k : Nat) : List Int := match k with | 0 => zs | 1 => [] | _ => f
def stepS (s : Int) (f : List Int) (k : Nat) : Int := match k with | 0 => s | 1 => 0 | 2 => 0 | _ => (f.length : Int)
def SaveAt (w : World) (P B : Nat) (A : Option Addr) (n c : Nat) : Prop := w.heap[P]? = some (.cells #[.pointer (some ⟨B, 0, none⟩), .slice A n c] 169 (0, 0))
theorem SaveAt.c0 {w : World} {P B n c : Nat} {A : Option Addr} (k : SaveAt w P B A n c) : w.cell? ⟨P, 0, none⟩ = some (.pointer (some ⟨B, 0, none⟩)) := by simp [World.cell?, show w.heap[P]? = _ from k]
theorem SaveAt.c1 {w : World} {P B n c : Nat} {A : Option Addr} (k : SaveAt w P B A n c) : w.cell? ⟨P, 1, none⟩ = some (.slice A n c) := by simp [World.cell?, show w.heap[P]? = _ from k]
theorem SaveAt.lt {w : World} {P B n c : Nat} {A : Option Addr} (k : SaveAt w P B A n c) : P < w.heap.size := (Array.getElem?_eq_some_iff.1 k).1
theorem SaveAt.below {w w1 : World} {P B n c m : Nat} {A : Option Addr} (k : SaveAt w P B A n c) (h : Below m w w1) (hm : P < m) : SaveAt w1 P B A n c := (h.block P hm).trans k
set_option maxHeartbeats 16000000 in
theorem save_is {w : World} {S BX BY : Nat} (hS : StoreS w S BX BY) (h : Held) (o : Int) (hn : Calls Try.prog 114 #[.pointer (some ⟨S, 0, none⟩)] w (NewPost w h o))
 {base BT : Nat} {v : Value} {zs : List Int} {s m : Int} (hT : DiskS w base BT v zs s m) (ho : (o = 0 ∧ BT = BX) ∨ (o = 1 ∧ BT = BY)) (A0 : Option Addr) (c0 : Nat) (b : List Int) (hb : Kd.C (Kd.int .u8) w A0 b.length b) (hB : areBytesN b = true) (hl : b.length ≤ 4000)
 (g : Nat) (hg : h.2.1 = (g : Int)) (hg1 : g < 1000) (stop keep : Int) (hs0 : 0 ≤ stop) (hs1 : stop < 9223372036854775808) (hmm : ((frameF (vb (g + 1) ++ b)).length : Int) ≤ m) (hk0 : 0 ≤ keep) (hk1 : keep ≤ 9223372036854775807) :
 Calls Try.prog 55 #[.pointer (some ⟨S, 0, none⟩), .slice A0 b.length c0, .int .i64 stop, .int .i64 keep] w fun e w' => e = .returned (.int .i64 0) ∧ ∃ v', DStep w w' BT v v' ∧
  ((stop < 3 ∧ DiskS w' base BT v' (crL (stepL zs (frameF (vb (g + 1) ++ b)) stop.toNat) (stepS s (frameF (vb (g + 1) ++ b)) stop.toNat) keep) (crS (stepL zs (frameF (vb (g + 1) ++ b)) stop.toNat) (stepS s (frameF (vb (g + 1) ++ b)) stop.toNat) keep) m) ∨
   (3 ≤ stop ∧ DiskS w' base BT v' (frameF (vb (g + 1) ++ b)) ((frameF (vb (g + 1) ++ b)).length : Int) m)) := by
 obtain ⟨st, rfl⟩ : ∃ st : Nat, stop = (st : Int) := ⟨stop.toNat, by omega⟩
 rw [Int.toNat_natCast]
 clear hs0 hs1
 have hbase : base ≤ w.heap.size := by have := hT.at_; have := hT.cells.lt; omega
 have hSl := hS.lt
 have HS := Lib.hid hS
 have HN := Lib.hid hn
 have HT := Lib.hid hT
 have HBC := Lib.hid hb
 have HBB := Lib.hid hB
 have hv2 : (vb (g + 1)).length ≤ 2 := vb_length_le 1 (g + 1) (by omega)
 have hfb : areBytesN (vb (g + 1) ++ b) = true := areBytesN_append (vb_bytes _) hB
 have hfl := frameF_length (vb (g + 1) ++ b)
 have hvl : (vb (vb (g + 1) ++ b).length).length ≤ 2 := vb_length_le 1 _ (by rw [List.length_append]; omega)
 have hll : (vb (g + 1) ++ b).length = (vb (g + 1)).length + b.length := List.length_append
 have hwr : wrapF (vb (g + 1) ++ b) = (frameF (vb (g + 1) ++ b), 0) := by unfold wrapF; rw [if_neg (by omega)]
 obtain ⟨n, hn1⟩ : ∃ n, n = g + 1 := ⟨_, rfl⟩
 rw [← hn1] at hv2 hfb hfl hvl hll hwr hmm ⊢
 obtain ⟨vg, hvg⟩ : ∃ vg, vb n = vg := ⟨_, rfl⟩
 rw [hvg] at hv2 hfb hfl hvl hll hwr hmm ⊢
 have HVG := Lib.hid hvg
 obtain ⟨in_, hin⟩ : ∃ x, vg ++ b = x := ⟨_, rfl⟩
 rw [hin] at hfb hfl hvl hll hwr hmm ⊢
 have HIN := Lib.hid hin
 obtain ⟨f, hf⟩ : ∃ f, frameF in_ = f := ⟨_, rfl⟩
 rw [hf] at hfl hwr hmm ⊢
 have HFB := Lib.hid hfb
 have HWR := Lib.hid hwr
 have hfm : f.length ≤ 4010 := by omega
 obtain ⟨hb_, hgi, hi⟩ := h
 simp only at hg HN
 subst hg
 clear hS hn hT hb hB hvg hin hf hfb hwr hfl hvl
 have hU : IntKind.u64.wrap ((g : Int) + 1) = (n : Int) := by rw [IntKind.wrap_u64]; omega
 have hn0 : ((n : Int) == 0) = false := by simp; omega
 have hn2 : n ≤ 1000 := by omega
 have hil : in_.length ≤ 4002 := by omega
 clear hn1 hll
 go_enter Try.func55, Try.ntmps55
 go_upto_region 7 with (first
  | (go_at_call 113; refine (snone_is HS.out).mono ?_; rintro e w' ⟨rfl, rfl⟩)
  | (go_at_call 114; refine HN.out.mono ?_; rintro e w1 ⟨A1, k1, rfl, hc, hb⟩; unfold hval; have HB1 := Lib.hid hb; clear hc hb))
 obtain ⟨w2, hw2⟩ : ∃ w2, w1.alloc (.cells #[.slice A1 hb_.length k1, .int .u64 g, .bool hi] 165) = w2 := ⟨_, rfl⟩
 have hb2 : Below w1.heap.size w1 w2 := by rw [← hw2]; exact (Below.refl _ _).alloc (Nat.le_refl _) _
 have k9 : HeldAt w2 w1.heap.size (.slice A1 hb_.length k1) (.int .u64 g) (.bool hi) := by rw [← hw2]; exact World.alloc_heap_new w1 _
 rw [hw2]
 clear hw2
 have K9 := Lib.hid k9
 have HB2 := Lib.hid (HB1.out.trans (hb2.mono HB1.out.size))
 have z1 := k9.c1
 have HBX := Lib.hid (C_box w2 .u64 (n : Int) 90)
 have hbe : Below w2.heap.size w2 (w2.alloc (.cells #[.int .u64 (n : Int)] 90)) := (Below.refl _ _).alloc (Nat.le_refl _) _
 have HBE := Lib.hid hbe
 have HNil := Lib.hid (C_nil (w2.alloc (.cells #[.int .u64 (n : Int)] 90)) .u8)
 clear k9 hb2 hbe
 go_upto_region 10 with (first
  | (go_at_call 89; refine (put_any none (some ⟨w2.heap.size, 0, none⟩) 0 1 [] [(n : Int)] _ HNil.out HBX.out (u64_one n (by omega)) (by rw [vbs_one, HVG.out, List.nil_append]; omega)).mono ?_; rintro e w3 ⟨v3, rfl, hr, hb⟩; rw [vbs_one, HVG.out, List.nil_append] at hr; obtain ⟨A3, k3, rfl, _, _⟩ := BR.len hr; have HR3 := Lib.hid (Kd.R_lower hr HBE.out.size); have HX3 := Lib.hid (HBE.out.trans (hb.mono HBE.out.size)); clear hr hb)
  | (at_builtin; refine BR.append_ev (w := w3) (base := w2.heap.size) HR3.out (Kd.C_below (Kd.C_below HBC.out HB2.out) HX3.out) rfl (.tmp 34) (.tmp 35) rfl rfl rfl HX3.out.size (by omega) ?_; intro v4 w4 hr hb hat; rw [HIN.out] at hr; obtain ⟨A4, k4, rfl, _, hC4⟩ := BR.len hr; have HC4 := Lib.hid hC4; have HX4 := Lib.hid (HX3.out.trans hb); clear hr hb hat hC4)
  | (go_at_call 21; refine (wrap_any A4 k4 in_ w4 HC4.out HFB.out).mono ?_; rintro e w5 ⟨v5, rfl, hr, hb⟩; rw [HWR.out] at hr; rw [HWR.out]; have HR5 := Lib.hid hr; obtain ⟨A5, k5, rfl, hk5, hC5⟩ := BR.len hr; have HC5 := Lib.hid hC5; have HZ4 := Lib.hid (Nat.le_trans HB2.out.size HX4.out.size); have HX5 := Lib.hid (HX4.out.trans (hb.mono HX4.out.size)); have HB5 := Lib.hid (HB2.out.trans (HX5.out.mono HB2.out.size)); have k9 := K9.out.below HX5.out K9.out.lt; have z1 := k9.c1; have K95 := Lib.hid k9; clear hr hb hC5 k9))
 clear HBX HBE HNil HR3 HX3 HC4 HX4 hv2
 have hs5 := HS.out.below HB5.out hSl
 have sc0 := hs5.c0
 have sc1 := hs5.c1
 clear hs5
 have hk6 : SaveAt (w5.alloc (.cells #[.pointer (some ⟨BT, 0, none⟩), .slice A5 f.length k5] 169)) w5.heap.size BT A5 f.length k5 := World.alloc_heap_new w5 _
 have hb6 : Below w5.heap.size w5 (w5.alloc (.cells #[.pointer (some ⟨BT, 0, none⟩), .slice A5 f.length k5] 169)) := (Below.refl _ _).alloc (Nat.le_refl _) _
 obtain ⟨w6, hw6⟩ : ∃ w6, w5.alloc (.cells #[.pointer (some ⟨BT, 0, none⟩), .slice A5 f.length k5] 169) = w6 := ⟨_, rfl⟩
 rw [hw6] at hk6 hb6
 have HW6 := Lib.hid hw6
 have HK6 := Lib.hid hk6
 have HB6 := Lib.hid hb6
 have HT6 := Lib.hid (HT.out.below (HB5.out.trans (hb6.mono HB5.out.size)) (Nat.le_refl _))
 have HC6 := Lib.hid (Kd.C_below HC5.out hb6)
 have k9 := K95.out.below hb6 K95.out.lt
 have z1' := k9.c1
 have HBT : Hid (BT < w.heap.size ∧ w.heap.size ≤ w5.heap.size ∧ ∀ k, v.ownBlock = some k → k < w.heap.size) := Lib.hid ⟨HT.out.cells.lt, HB5.out.size, fun k hk => (HT.out.row.block hk).2.1⟩
 have HA5 : Hid (∀ ad, A5 = some ad → w.heap.size ≤ ad.block ∧ ad.block < w5.heap.size) := Lib.hid fun ad e => by
  have e2 : Value.ownBlock (.slice A5 f.length k5) = some ad.block := by rw [e]; rfl
  exact ⟨Nat.le_trans HZ4.out (BR.base HR5.out e2), own_lt (Kd.own_of_R HR5.out) _ e2⟩
 have c60 := hk6.c0
 have c61 := hk6.c1
 clear hk6 hb6 hw6 k9
 rcases ho with ⟨rfl, rfl⟩ | ⟨rfl, rfl⟩
 all_goals
  go_upto_region 11 with (fail)
  rw [HW6.out]
  go_upto_region 13 with (go_at_call 115; refine (sroom_is HT6.out A5 k5 f HC6.out (by omega)).mono ?_; rintro e w7 ⟨rfl, hb⟩; have HB7 := Lib.hid hb; have hk7 := HK6.out.below hb HK6.out.lt; have c70 := hk7.c0; have c71 := hk7.c1; have HK7 := Lib.hid hk7; clear hb hk7)
  have HT7 := Lib.hid (HT6.out.below HB7.out (Nat.le_refl _))
  have HB57 := Lib.hid (HB6.out.trans (HB7.out.mono HB6.out.size))
  have HC7 := Lib.hid (Kd.C_below HC6.out HB7.out)
  have HST := HBT.out
  have hmv : ∀ wr v', DStep w7 wr BT v v' → SaveAt wr w5.heap.size BT A5 f.length k5 ∧ Kd.C (Kd.int .u8) wr A5 f.length f := fun wr v' hd => by
   obtain ⟨q1, q2, q3⟩ := HBT.out
   have q4 := HK7.out.lt
   have q5 := HB57.out.size
   refine ⟨(hd.block _ q4 (by omega) (fun e => by have := q3 _ e.symm; omega)).trans HK7.out, C_moveK HC7.out fun ad e => ?_⟩
   obtain ⟨r1, r2⟩ := HA5.out ad e
   exact hd.block _ (by omega) (by omega) (fun e => by have := q3 _ e.symm; omega)
  have HMV := Lib.hid hmv
  have HD0 := Lib.hid (DStep.of_below BT v (HB5.out.trans (HB57.out.mono HB5.out.size)))
  clear hmv HST sc0 sc1 z1 z1'
  go_wp2_with (fail)
  go_loopg [66] 4 (fun gg s66 wr => ∃ i : Nat, s66 = .int .i64 i ∧ i ≤ 3 ∧ gg = 4 - i ∧ Hid (∃ v', DiskS wr base BT v' (stepL zs f (min i st)) (stepS s f (min i st)) m ∧ DStep w7 wr BT v v'))
  case atStart => exact ⟨0, rfl, by omega, rfl, Lib.hid ⟨v, by rw [Nat.zero_min]; exact HT7.out, DStep.refl _ _ _⟩⟩
  case round =>
   obtain ⟨i, rfl, hi3, hgg, HI⟩ := hrel
   obtain ⟨v', HD⟩ : ∃ v', Hid (DiskS wr base BT v' (stepL zs f (min i st)) (stepS s f (min i st)) m ∧ DStep w7 wr BT v v') := ⟨HI.out.choose, Lib.hid HI.out.choose_spec⟩
   have hfi0 := fidx0 (.func (.func 116) #[.agg #[.pointer (some ⟨BT, 0, none⟩), .slice A5 f.length k5]] #[]) (.func (.func 117) #[.agg #[.pointer (some ⟨BT, 0, none⟩), .slice A5 f.length k5]] #[]) (.func (.func 118) #[.agg #[.pointer (some ⟨BT, 0, none⟩), .slice A5 f.length k5]] #[]) wr
   have hfi1 := fidx1 (.func (.func 116) #[.agg #[.pointer (some ⟨BT, 0, none⟩), .slice A5 f.length k5]] #[]) (.func (.func 117) #[.agg #[.pointer (some ⟨BT, 0, none⟩), .slice A5 f.length k5]] #[]) (.func (.func 118) #[.agg #[.pointer (some ⟨BT, 0, none⟩), .slice A5 f.length k5]] #[]) wr
   have hfi2 := fidx2 (.func (.func 116) #[.agg #[.pointer (some ⟨BT, 0, none⟩), .slice A5 f.length k5]] #[]) (.func (.func 117) #[.agg #[.pointer (some ⟨BT, 0, none⟩), .slice A5 f.length k5]] #[]) (.func (.func 118) #[.agg #[.pointer (some ⟨BT, 0, none⟩), .slice A5 f.length k5]] #[]) wr
   have HF0 := Lib.hid hfi0
   have HF1 := Lib.hid hfi1
   have HF2 := Lib.hid hfi2
   clear HI hfi0 hfi1 hfi2
   by_cases hi : i < 3
   · by_cases hst : i < st
     · have hm0 : min i st = i := by omega
       have hm1 : min (i + 1) st = i + 1 := by omega
       rw [hm0] at HD
       have HM1 := Lib.hid hm1
       clear hm0 hm1
       rcases (show i = 0 ∨ i = 1 ∨ i = 2 by omega) with rfl | rfl | rfl
       · go_wp2_with (first
          | (refine findex_ev rfl _ _ rfl rfl rfl HF0.out ?_)
          | (go_at_call 116; refine (scut_is HD.out.1 A5 f.length k5).mono ?_; rintro e w8 ⟨rfl, v8, hd, hs⟩; have HD8 := Lib.hid hd; have HS8 := Lib.hid (HD.out.2.trans hs); clear hd hs))
         go_roundg 3
         case measure => omega
         case rel => exact ⟨1, by go_num, by omega, rfl, Lib.hid ⟨v8, by rw [HM1.out]; exact HD8.out, HS8.out⟩⟩
       · go_wp2_with (first
          | (refine findex_ev rfl _ _ rfl rfl rfl HF1.out ?_)
          | (go_at_call 117; refine (swrite_is HD.out.1 A5 k5 f (HMV.out _ _ HD.out.2).2 (by omega)).mono ?_; rintro e w8 ⟨rfl, v8, hd, hs⟩; have HD8 := Lib.hid hd; have HS8 := Lib.hid (HD.out.2.trans hs); clear hd hs))
         go_roundg 2
         case measure => omega
         case rel => exact ⟨2, by go_num, by omega, rfl, Lib.hid ⟨v8, by rw [HM1.out]; exact HD8.out, HS8.out⟩⟩
       · go_wp2_with (first
          | (refine findex_ev rfl _ _ rfl rfl rfl HF2.out ?_)
          | (go_at_call 118; refine (ssync_is HD.out.1 A5 f.length k5).mono ?_; rintro e w8 ⟨rfl, v8, hd, hs⟩; have HD8 := Lib.hid hd; have HS8 := Lib.hid (HD.out.2.trans hs); clear hd hs))
         go_roundg 1
         case measure => omega
         case rel => exact ⟨3, by go_num, by omega, rfl, Lib.hid ⟨v8, by rw [HM1.out]; exact HD8.out, HS8.out⟩⟩
     · have hm1 : min (i + 1) st = min i st := by omega
       have HM1 := Lib.hid hm1
       clear hm1
       rcases (show i = 0 ∨ i = 1 ∨ i = 2 by omega) with rfl | rfl | rfl
       · go_wp2_with (refine findex_ev rfl _ _ rfl rfl rfl HF0.out ?_)
         go_roundg 3
         case measure => omega
         case rel => exact ⟨1, by go_num, by omega, rfl, Lib.hid ⟨v', by have := HM1.out; simp only [Nat.zero_add] at this; rw [this]; exact HD.out.1, HD.out.2⟩⟩
       · go_wp2_with (refine findex_ev rfl _ _ rfl rfl rfl HF1.out ?_)
         go_roundg 2
         case measure => omega
         case rel => exact ⟨2, by go_num, by omega, rfl, Lib.hid ⟨v', by rw [HM1.out]; exact HD.out.1, HD.out.2⟩⟩
       · go_wp2_with (refine findex_ev rfl _ _ rfl rfl rfl HF2.out ?_)
         go_roundg 1
         case measure => omega
         case rel => exact ⟨3, by go_num, by omega, rfl, Lib.hid ⟨v', by rw [HM1.out]; exact HD.out.1, HD.out.2⟩⟩
   · obtain rfl : i = 3 := by omega
     have hk8 := (HMV.out _ _ HD.out.2).1
     have c80 := hk8.c0
     clear hk8
     by_cases hst : st < 3
     · have hm0 : min 3 st = st := by omega
       rw [hm0] at HD
       clear hm0
       go_wp2_with (go_at_call 33; refine (crash_any HD.out.1 keep hk1).mono ?_; rintro e w9 ⟨rfl, v9, hd, hs⟩; have HD9 := Lib.hid hd; have HS9 := Lib.hid (HD0.out.trans (HD.out.2.trans hs)); clear hd hs)
       go_ret
       exact ⟨rfl, v9, HS9.out, .inl ⟨by omega, HD9.out⟩⟩
     · have hm0 : min 3 st = 3 := by omega
       rw [hm0] at HD
       clear hm0
       go_wp2_with (fail)
       go_ret
       exact ⟨rfl, v', HD0.out.trans HD.out.2, .inr ⟨by omega, HD.out.1⟩⟩
end Go.Proofs.Ytmbnjgnmblgjoaa.Man
end
section
namespace Go.Proofs.Ytmbnjgnmblgjoaa.Man
open Go.RowKit Go.Proofs.YtmbnjgnmblgjoaaW.PrintWords Go.Proofs.YtmbnjgnmblgjoaaW.PrintLast Go.Proofs.YtmbnjgnmblgjoaaW.PrintMore
set_option linter.unusedVariables false
set_option linter.unusedSimpArgs false
set_option maxRecDepth 100000
theorem idx0 (c0 c1 : Value) (W : World) : (Instr.index 161 (.agg #[c0, c1]) (.int .i64 0)).run Try.prog W = .ok c0 W := by kernel_rfl
theorem idx1 (c0 c1 : Value) (W : World) : (Instr.index 161 (.agg #[c0, c1]) (.int .i64 1)).run Try.prog W = .ok c1 W := by kernel_rfl
theorem index_ev {ops : Array Oper} {rest : List Oper} {o : Oper} {a : Act} {Q : Exit → Act → World → Prop} {w : World} (hgd : o.guard = none) (x i : Operand) (ho : o.op = .index 161 x i) {cs : Array Value} {k : Int} {v : Value}
 (hx : a.eval x = .agg cs) (hi : a.eval i = .int .i64 k) (hr : (Instr.index 161 (.agg cs) (.int .i64 k)).run Try.prog w = .ok v w) (h : wpList Try.prog ops Q rest (a.put o.dst v) w) : wpList Try.prog ops Q (o :: rest) a w := by
 refine Kd.event_run hgd ?_ h
 unfold execOp
 rw [ho]
 simp [hx, hi, hr]
theorem held_frame (g : Nat) (b : List Int) (hg : g < 1002) (hB : areBytesN b = true) (hl : b.length ≤ 4000) : heldF (frameF (vb g ++ b)) = (b, (g : Int), true) := by
 have hv : (vb g).length ≤ 2 := vb_length_le 1 g (by omega)
 have h := openF_frame (vb g ++ b) [] (areBytesN_append (vb_bytes _) hB) (by rw [List.length_append]; omega)
 rw [List.append_nil] at h
 unfold heldF
 rw [h]
 simp only
 rw [if_neg (by simp), if_neg (by simp), getF_vb g (by omega) b]
 simp
theorem held_short (x : List Int) (hl : x.length ≤ 65536) (j : Nat) (hj : j < (frameF x).length) : heldF ((frameF x).take j) = ([], 0, false) := by
 unfold heldF
 rw [openF_short x hl j hj, if_pos (by simp)]
theorem held_nil : heldF [] = ([], 0, false) := by
 unfold heldF
 rw [openF_empty, if_pos (by simp)]
def Inv (i : Nat) (old : List Int) (hx hy : Held) : Prop :=
 (i = 0 ∧ old = [] ∧ hx = ([], 0, false) ∧ hy = ([], 0, false)) ∨
 (i % 2 = 1 ∧ hx = (old, (i : Int), true) ∧ (hy.2.2 = false ∨ hy.2.1 < (i : Int))) ∨
 (0 < i ∧ i % 2 = 0 ∧ hy = (old, (i : Int), true) ∧ (hx.2.2 = false ∨ hx.2.1 < (i : Int)))
theorem Inv.new {i : Nat} {old : List Int} {hx hy : Held} (h : Inv i old hx hy) : newF hx hy = ((old, (i : Int), decide (0 < i)), if i % 2 = 0 then 0 else 1) := by
 rcases h with ⟨rfl, rfl, rfl, rfl⟩ | ⟨h1, rfl, h2⟩ | ⟨h0, h1, rfl, h2⟩
 · rfl
 · unfold newF firstF
   have : (true && (!hy.2.2 || decide (hy.2.1 ≤ (i : Int)))) = true := by
    rcases h2 with h2 | h2
    · rw [h2]; rfl
    · rw [show decide (hy.2.1 ≤ (i : Int)) = true by simp; omega]; simp
   simp only at this ⊢
   rw [if_pos this, if_neg (by omega), show decide (0 < i) = true by simp; omega]
 · unfold newF firstF
   have : (hx.2.2 && (!true || decide ((i : Int) ≤ hx.2.1))) = false := by
    rcases h2 with h2 | h2
    · rw [h2]; rfl
    · rw [show decide ((i : Int) ≤ hx.2.1) = false by simp; omega]; simp
   simp only at this ⊢
   rw [this, if_neg (by simp), if_pos trivial, if_pos h1, show decide (0 < i) = true by simp; omega]
theorem Inv.sv {i : Nat} {old b : List Int} {hx hy : Held} (h : Inv i old hx hy) : (i % 2 = 0 → Inv (i + 1) b (b, ((i + 1 : Nat) : Int), true) hy) ∧ (i % 2 = 1 → Inv (i + 1) b hx (b, ((i + 1 : Nat) : Int), true)) := by
 constructor
 · intro e
   refine .inr (.inl ⟨by omega, rfl, ?_⟩)
   rcases h with ⟨rfl, rfl, rfl, rfl⟩ | ⟨h1, _, _⟩ | ⟨_, _, rfl, _⟩
   · exact .inl rfl
   · omega
   · exact .inr (by show (i : Int) < ((i + 1 : Nat) : Int); omega)
 · intro e
   refine .inr (.inr ⟨by omega, by omega, rfl, ?_⟩)
   rcases h with ⟨rfl, rfl, rfl, rfl⟩ | ⟨_, rfl, _⟩ | ⟨_, h1, _, _⟩
   · omega
   · exact .inr (by show (i : Int) < ((i + 1 : Nat) : Int); omega)
   · omega
theorem Inv.lost {i : Nat} {old : List Int} {hx hy : Held} (h : Inv i old hx hy) : (i % 2 = 0 → Inv i old ([], 0, false) hy) ∧ (i % 2 = 1 → Inv i old hx ([], 0, false)) := by
 constructor
 · intro e
   rcases h with ⟨rfl, rfl, rfl, rfl⟩ | ⟨h1, _, _⟩ | ⟨h0, _, rfl, _⟩
   · exact .inl ⟨rfl, rfl, rfl, rfl⟩
   · omega
   · exact .inr (.inr ⟨h0, e, rfl, .inl rfl⟩)
 · intro e
   rcases h with ⟨rfl, rfl, rfl, rfl⟩ | ⟨_, rfl, _⟩ | ⟨_, h1, _, _⟩
   · omega
   · exact .inr (.inl ⟨e, rfl, .inl rfl⟩)
   · omega
theorem stop_held (zs b : List Int) (g : Nat) (hg : g < 1000) (hz : areBytesN zs = true) (hB : areBytesN b = true) (hl : b.length ≤ 4000) (st : Nat) (keep : Int) (hk : 0 ≤ keep) :
 areBytesN (crL (stepL zs (frameF (vb (g + 1) ++ b)) st) (stepS (zs.length : Int) (frameF (vb (g + 1) ++ b)) st) keep) = true ∧
 (heldF (crL (stepL zs (frameF (vb (g + 1) ++ b)) st) (stepS (zs.length : Int) (frameF (vb (g + 1) ++ b)) st) keep) = heldF zs ∨
  heldF (crL (stepL zs (frameF (vb (g + 1) ++ b)) st) (stepS (zs.length : Int) (frameF (vb (g + 1) ++ b)) st) keep) = ([], 0, false) ∨
  heldF (crL (stepL zs (frameF (vb (g + 1) ++ b)) st) (stepS (zs.length : Int) (frameF (vb (g + 1) ++ b)) st) keep) = (b, ((g + 1 : Nat) : Int), true)) := by
 have hv : (vb (g + 1)).length ≤ 2 := vb_length_le 1 _ (by omega)
 have hfb := frameF_bytes (vb (g + 1) ++ b) (areBytesN_append (vb_bytes _) hB)
 have hf := held_frame (g + 1) b (by omega) hB hl
 have hsh := held_short (vb (g + 1) ++ b) (by rw [List.length_append]; omega)
 generalize frameF (vb (g + 1) ++ b) = f at hfb hf hsh
 have key : ∀ (s : Int), areBytesN (crL f s keep) = true ∧ (heldF (crL f s keep) = ([], 0, false) ∨ heldF (crL f s keep) = (b, ((g + 1 : Nat) : Int), true)) := fun s => by
  unfold crL
  rw [if_neg (by omega)]
  refine ⟨areBytesN_take hfb _, ?_⟩
  generalize (s + min keep ((f.length : Int) - s)).toNat = j
  by_cases hj : j < f.length
  · exact .inl (hsh j hj)
  · rw [List.take_of_length_le (by omega)]
    exact .inr hf
 match st with
 | 0 =>
  have e : crL zs (zs.length : Int) keep = zs := by
   unfold crL
   rw [if_neg (by omega), List.take_of_length_le (by omega)]
  show areBytesN (crL zs (zs.length : Int) keep) = true ∧ (heldF (crL zs (zs.length : Int) keep) = _ ∨ heldF (crL zs (zs.length : Int) keep) = _ ∨ heldF (crL zs (zs.length : Int) keep) = _)
  rw [e]
  exact ⟨hz, .inl rfl⟩
 | 1 =>
  have e : crL [] 0 keep = [] := by
   unfold crL
   rw [if_neg (by omega), List.take_nil]
  show areBytesN (crL [] 0 keep) = true ∧ (heldF (crL [] 0 keep) = _ ∨ heldF (crL [] 0 keep) = _ ∨ heldF (crL [] 0 keep) = _)
  rw [e]
  exact ⟨rfl, .inr (.inl held_nil)⟩
 | 2 => exact ⟨(key 0).1, .inr (key 0).2⟩
 | (n + 3) => exact ⟨(key (f.length : Int)).1, .inr (key (f.length : Int)).2⟩
structure SN (w : World) (base S BX BY : Nat) (v u : Value) (X Y : List Int) (s s' m : Int) : Prop where
 st : StoreS w S BX BY
 x : DiskS w base BX v X s m
 y : DiskS w base BY u Y s' m
 ne : BX ≠ BY
 ap : Apart v u
 bx : areBytesN X = true
 by_ : areBytesN Y = true
theorem StoreS.step {w w1 : World} {S BX BY base B : Nat} {v v' : Value} {xs : List Int} {s m : Int} (k : StoreS w S BX BY) (hd : DiskS w base B v xs s m) (st : DStep w w1 B v v') : StoreS w1 S BX BY := by
 refine k.move (st.block S k.lt (fun e => ?_) (fun e => ?_))
 · have h1 : w.heap[S]? = _ := k
   have h2 : w.heap[B]? = _ := hd.cells
   rw [e, h2] at h1
   cases h1
 · obtain ⟨_, _, cur, hc⟩ := hd.row.block e.symm
   have h1 : w.heap[S]? = _ := k
   rw [hc] at h1
   cases h1
theorem SN.below {w w1 : World} {base S BX BY n : Nat} {v u : Value} {X Y : List Int} {s s' m : Int} (h : SN w base S BX BY v u X Y s s' m) (hb : Below n w w1) (hn : w.heap.size ≤ n) : SN w1 base S BX BY v u X Y s s' m :=
 { h with st := h.st.below hb (by have := h.st.lt; omega), x := h.x.below hb hn, y := h.y.below hb hn }
theorem SN.actX {w w1 : World} {base S BX BY : Nat} {v u v' : Value} {X Y X' : List Int} {s s' m t : Int} (h : SN w base S BX BY v u X Y s s' m) (hd : DiskS w1 base BX v' X' t m) (st : DStep w w1 BX v v') (hb : areBytesN X' = true) : SN w1 base S BX BY v' u X' Y t s' m :=
 ⟨h.st.step h.x st, hd, h.y.other h.x st h.ne.symm (fun b hb => h.ap.symm b hb), h.ne, st.apart h.ap h.y.row, hb, h.by_⟩
theorem SN.actY {w w1 : World} {base S BX BY : Nat} {v u u' : Value} {X Y Y' : List Int} {s s' m t : Int} (h : SN w base S BX BY v u X Y s s' m) (hd : DiskS w1 base BY u' Y' t m) (st : DStep w w1 BY u u') (hb : areBytesN Y' = true) : SN w1 base S BX BY v u' X Y' s t m :=
 ⟨h.st.step h.y st, h.x.other h.y st h.ne (fun b hb => h.ap b hb), hd, h.ne, (st.apart h.ap.symm h.x.row).symm, h.bx, hb⟩
theorem newestN {w : World} {base S BX BY : Nat} {v u : Value} {X Y : List Int} {s s' m : Int} (h : SN w base S BX BY v u X Y s s' m) {i : Nat} {old : List Int} (I : Inv i old (heldF X) (heldF Y)) :
 Calls Try.prog 114 #[.pointer (some ⟨S, 0, none⟩)] w (NewPost w (old, (i : Int), decide (0 < i)) (if i % 2 = 0 then 0 else 1)) := by
 have := newest_is h.st h.x h.y h.bx h.by_
 rw [I.new] at this
 exact this
theorem saveN {w : World} {base S BX BY : Nat} {v u : Value} {X Y : List Int} {m : Int} (h : SN w base S BX BY v u X Y (X.length : Int) (Y.length : Int) m) {i : Nat} {old : List Int} (I : Inv i old (heldF X) (heldF Y)) (hi : i < 1000)
 (A0 : Option Addr) (c0 : Nat) (b : List Int) (hb : Kd.C (Kd.int .u8) w A0 b.length b) (hB : areBytesN b = true) (hl : b.length ≤ 4000) (hm : (b.length : Int) + 8 ≤ m) (st : Nat) (keep : Int) (hs1 : st < 1000) (hk0 : 0 ≤ keep) (hk1 : keep ≤ 9223372036854775807) :
 Calls Try.prog 55 #[.pointer (some ⟨S, 0, none⟩), .slice A0 b.length c0, .int .i64 (st : Int), .int .i64 keep] w fun e w' => e = .returned (.int .i64 0) ∧ Below base w w' ∧ ∃ v' u' X' Y' t t', SN w' base S BX BY v' u' X' Y' t t' m ∧
  (st < 3 → Inv i old (heldF X') (heldF Y') ∨ Inv (i + 1) b (heldF X') (heldF Y')) ∧ (3 ≤ st → t = (X'.length : Int) ∧ t' = (Y'.length : Int) ∧ Inv (i + 1) b (heldF X') (heldF Y')) := by
 have hn := newestN h I
 have hfb := frameF_bytes (vb (i + 1) ++ b) (areBytesN_append (vb_bytes _) hB)
 have hf := held_frame (i + 1) b (by omega) hB hl
 have hmm : ((frameF (vb (i + 1) ++ b)).length : Int) ≤ m := by
  have h1 : (vb (i + 1)).length ≤ 2 := vb_length_le 1 _ (by omega)
  have h2 : (vb (vb (i + 1) ++ b).length).length ≤ 2 := vb_length_le 1 _ (by rw [List.length_append]; omega)
  have h3 : (vb (i + 1) ++ b).length = (vb (i + 1)).length + b.length := List.length_append
  rw [frameF_length]
  omega
 by_cases e : i % 2 = 0
 · rw [if_pos e] at hn
   refine (save_is h.st _ 0 hn h.x (.inl ⟨rfl, rfl⟩) A0 c0 b hb hB hl i rfl hi (st : Int) keep (by omega) (by omega) hmm hk0 hk1).mono ?_
   rintro e1 w' ⟨rfl, v', hs, hd⟩
   rw [Int.toNat_natCast] at hd
   refine ⟨rfl, hs.below h.x, ?_⟩
   rcases hd with ⟨h3, hd⟩ | ⟨h3, hd⟩
   · obtain ⟨q1, q2⟩ := stop_held X b i hi h.bx hB hl st keep hk0
     refine ⟨_, _, _, _, _, _, h.actX hd hs q1, fun _ => ?_, fun h4 => by omega⟩
     rcases q2 with q | q | q
     · rw [q]; exact .inl I
     · rw [q]; exact .inl (I.lost.1 e)
     · rw [q]; exact .inr (I.sv.1 e)
   · refine ⟨_, _, _, _, _, _, h.actX hd hs hfb, fun h4 => by omega, fun _ => ⟨rfl, rfl, ?_⟩⟩
     rw [hf]; exact I.sv.1 e
 · rw [if_neg e] at hn
   refine (save_is h.st _ 1 hn h.y (.inr ⟨rfl, rfl⟩) A0 c0 b hb hB hl i rfl hi (st : Int) keep (by omega) (by omega) hmm hk0 hk1).mono ?_
   rintro e1 w' ⟨rfl, v', hs, hd⟩
   rw [Int.toNat_natCast] at hd
   refine ⟨rfl, hs.below h.y, ?_⟩
   rcases hd with ⟨h3, hd⟩ | ⟨h3, hd⟩
   · obtain ⟨q1, q2⟩ := stop_held Y b i hi h.by_ hB hl st keep hk0
     refine ⟨_, _, _, _, _, _, h.actY hd hs q1, fun _ => ?_, fun h4 => by omega⟩
     rcases q2 with q | q | q
     · rw [q]; exact .inl I
     · rw [q]; exact .inl (I.lost.2 (by omega))
     · rw [q]; exact .inr (I.sv.2 (by omega))
   · refine ⟨_, _, _, _, _, _, h.actY hd hs hfb, fun h4 => by omega, fun _ => ⟨rfl, rfl, ?_⟩⟩
     rw [hf]; exact I.sv.2 (by omega)
theorem app_nil {w : World} {base B : Nat} {v : Value} {xs : List Int} {s m : Int} (h : DiskS w base B v xs s m) : Calls Try.prog 29 #[.pointer (some ⟨B, 0, none⟩), .slice none 0 0] w fun e w' => e = .returned (.int .i64 0) ∧ ∃ v', DiskS w' base B v' xs s m ∧ DStep w w' B v v' := by
 have := append_is h none 0 (C_nil w .u8) (by have := h.len; simp only [List.length_nil]; omega)
 rw [List.append_nil] at this
 exact this
theorem disks_ne {w : World} {base BX BY : Nat} {v u : Value} {xs ys : List Int} {s s' m m' : Int} (hx : DiskS w base BX v xs s m) (hy : DiskS w base BY u ys s' m') (ne : BX ≠ BY) :
 (binOp .eql 43 (.pointer (some ⟨BX, 0, none⟩)) (.pointer (some ⟨BY, 0, none⟩))).run Try.prog w = .ok (.bool false) w := by
 obtain ⟨j, hj, hsz⟩ : ∃ j, Try.prog.info? 148 = some j ∧ j.size = 4 := by
  have h : (Try.prog.info? 148).map (fun i => i.size) = some 4 := by kernel_rfl
  match hq : Try.prog.info? 148, h with
  | some j, h => exact ⟨j, rfl, by simpa [hq] using h⟩
 exact run_eql_ptr_other w (te := 148) (by kernel_rfl) hj (by omega) (fun e => ne (by cases e; rfl)) hx.cells hy.cells
set_option maxHeartbeats 4000000 in
theorem snapNew_is {w : World} {base BX BY : Nat} {m : Int} (hx : DiskS w base BX (.slice none 0 0) [] 0 m) (hy : DiskS w base BY (.slice none 0 0) [] 0 m) (ne : BX ≠ BY) :
 Calls Try.prog 54 #[.pointer (some ⟨BX, 0, none⟩), .pointer (some ⟨BY, 0, none⟩)] w fun e w' => ∃ S, e = .returned (.tuple #[.pointer (some ⟨S, 0, none⟩), .int .i64 0]) ∧ StoreS w' S BX BY ∧ (∃ v u, DiskS w' base BX v [] 0 m ∧ DiskS w' base BY u [] 0 m ∧ Apart v u) ∧ Below base w w' := by
 have hbase : base ≤ w.heap.size := by have := hx.at_; have := hx.cells.lt; omega
 have HXY : Hid (∃ v u, DiskS w base BX v [] 0 m ∧ DiskS w base BY u [] 0 m ∧ Apart v u) := Lib.hid ⟨_, _, hx, hy, Apart.nil _⟩
 clear hx hy
 go_enter Try.func54, Try.ntmps54
 go_wp2_with (fail)
 go_loopg [12] 3 (fun gg s12 wr => ∃ k : Nat, k ≤ 2 ∧ s12 = .int .i64 k ∧ gg = 3 - k ∧ Hid (∃ v u, DiskS wr base BX v [] 0 m ∧ DiskS wr base BY u [] 0 m ∧ Apart v u) ∧ Hid (Below base w wr))
 case atStart => exact ⟨0, by omega, rfl, rfl, HXY, Lib.hid (Below.refl _ _)⟩
 case round =>
  clear HXY
  obtain ⟨k, hk, rfl, hgg, HP, HB⟩ := hrel
  obtain ⟨v, u, HD⟩ : ∃ v u, Hid (DiskS wr base BX v [] 0 m ∧ DiskS wr base BY u [] 0 m ∧ Apart v u) := by
   obtain ⟨v, u, h⟩ := HP.out
   exact ⟨v, u, Lib.hid h⟩
  clear HP
  match k, hk with
  | 0, _ =>
   go_wp2_with (first | (refine index_ev rfl _ _ rfl rfl rfl (idx0 _ _ _) ?_) | (refine index_ev rfl _ _ rfl rfl rfl (idx1 _ _ _) ?_) | (go_at_call 29; refine (app_nil HD.out.1).mono ?_; rintro e w' ⟨rfl, v', hd, hs⟩; have HD' := Lib.hid hd; have HS' := Lib.hid hs; clear hd hs))
   go_roundg 2
   case measure => omega
   case rel => exact ⟨1, by omega, rfl, rfl, Lib.hid ⟨v', u, HD'.out, HD.out.2.1.other HD.out.1 HS'.out ne.symm (fun b hb => HD.out.2.2.symm b hb), HS'.out.apart HD.out.2.2 HD.out.2.1.row⟩, Lib.hid (HB.out.trans (HS'.out.below HD.out.1))⟩
  | 1, _ =>
   go_wp2_with (first | (refine index_ev rfl _ _ rfl rfl rfl (idx0 _ _ _) ?_) | (refine index_ev rfl _ _ rfl rfl rfl (idx1 _ _ _) ?_) | (go_at_call 29; refine (app_nil HD.out.2.1).mono ?_; rintro e w' ⟨rfl, u', hd, hs⟩; have HD' := Lib.hid hd; have HS' := Lib.hid hs; clear hd hs))
   go_roundg 1
   case measure => omega
   case rel => exact ⟨2, by omega, rfl, rfl, Lib.hid ⟨v, u', HD.out.1.other HD.out.2.1 HS'.out ne (fun b hb => HD.out.2.2 b hb), HD'.out, (HS'.out.apart HD.out.2.2.symm HD.out.1.row).symm⟩, Lib.hid (HB.out.trans (HS'.out.below HD.out.2.1))⟩
  | 2, _ =>
   have heq := disks_ne HD.out.1 HD.out.2.1 ne
   go_wp2_with (fail)
   have hbe : Below wr.heap.size wr (wr.alloc (.cells #[.pointer (some ⟨BX, 0, none⟩), .pointer (some ⟨BY, 0, none⟩)] 163)) := (Below.refl _ _).alloc (Nat.le_refl _) _
   have h1 := HD.out.1.below hbe (Nat.le_refl _)
   have h2 := HD.out.2.1.below hbe (Nat.le_refl _)
   go_ret2
   first
    | exact ⟨wr.heap.size, rfl, World.alloc_heap_new wr _, ⟨v, u, h1, h2, HD.out.2.2⟩, HB.out.alloc (by have := HB.out.size; omega) _⟩
    | exact ⟨World.alloc_heap_new wr _, ⟨v, u, h1, h2, HD.out.2.2⟩, HB.out.alloc (by have := HB.out.size; omega) _⟩
end Go.Proofs.Ytmbnjgnmblgjoaa.Man
end
section
namespace Go.Proofs.Ytmbnjgnmblgjoaa.Man
open Go.RowKit Go.Proofs.YtmbnjgnmblgjoaaW.PrintWords Go.Proofs.YtmbnjgnmblgjoaaW.PrintLast Go.Proofs.YtmbnjgnmblgjoaaW.PrintMore
set_option linter.unusedVariables false
set_option linter.unusedSimpArgs false
theorem heldG (xs : List Int) (hB : areBytesN xs = true) : ∃ g : Nat, (heldF xs).2.1 = (g : Int) ∧ g < 18446744073709551616 := by
 unfold heldF
 split
 · exact ⟨0, rfl, by decide⟩
 · split
   · exact ⟨0, rfl, by decide⟩
   · split
     · exact ⟨0, rfl, by decide⟩
     · rename_i h
       have hb := openF_bytes xs 0 hB
       generalize (openF xs 0).1 = b at h hb
       simp only [ne_eq, Decidable.not_not] at h
       unfold getF at h ⊢
       rw [if_neg (by omega)] at h ⊢
       simp only at h ⊢
       obtain ⟨⟨v, off, er⟩, hr⟩ : ∃ r, getL (b.drop (0 : Int).toNat) 0 0 = r := ⟨_, rfl⟩
       rw [hr] at h ⊢
       simp only at h ⊢
       subst h
       exact ⟨v, rfl, (vb_of2 v off _ (areBytesN_drop hb _) hr).1⟩
theorem newG (xs ys : List Int) (hx : areBytesN xs = true) (hy : areBytesN ys = true) : ∃ g : Nat, (newF (heldF xs) (heldF ys)).1.2.1 = (g : Int) ∧ g < 18446744073709551616 := by
 unfold newF
 split
 · exact heldG xs hx
 · split
   · exact heldG ys hy
   · exact ⟨0, rfl, by decide⟩
def Small64 (n : Nat) : Prop := n < 18446744073709551616
def Fits (a b : Nat) : Prop := a ≤ 140737488351232 ∧ b ≤ 10
def svIn (g : Nat) (b : List Int) : List Int := vb ((g + 1) % 18446744073709551616) ++ b
def svF (g : Nat) (b : List Int) : List Int := frameF (svIn g b)
def svE (g : Nat) (b : List Int) (m stop keep : Int) : Int :=
 if stop < 0 ∨ keep < 0 then 1 else if 65536 < (svIn g b).length then 2 else if g = 18446744073709551615 ∨ m < ((svF g b).length : Int) then 12 else 0
def svL (g : Nat) (b zs : List Int) (s m stop keep : Int) : List Int :=
 if svE g b m stop keep = 0 then (if stop < 3 then crL (stepL zs (svF g b) stop.toNat) (stepS s (svF g b) stop.toNat) keep else svF g b) else zs
def svS (g : Nat) (b zs : List Int) (s m stop keep : Int) : Int :=
 if svE g b m stop keep = 0 then (if stop < 3 then crS (stepL zs (svF g b) stop.toNat) (stepS s (svF g b) stop.toNat) keep else ((svF g b).length : Int)) else s
theorem svIn_bytes (g : Nat) (b : List Int) (hB : areBytesN b = true) : areBytesN (svIn g b) = true := areBytesN_append (vb_bytes _) hB
theorem stepL_bytes (zs f : List Int) (k : Nat) (hz : areBytesN zs = true) (hf : areBytesN f = true) : areBytesN (stepL zs f k) = true := by
 unfold stepL
 split
 · exact hz
 · rfl
 · exact hf
theorem svL_bytes (g : Nat) (b zs : List Int) (s m stop keep : Int) (hz : areBytesN zs = true) (hB : areBytesN b = true) : areBytesN (svL g b zs s m stop keep) = true := by
 have hf : areBytesN (svF g b) = true := frameF_bytes _ (svIn_bytes g b hB)
 unfold svL
 split
 · split
   · unfold crL
     split
     · exact stepL_bytes _ _ _ hz hf
     · exact areBytesN_take (stepL_bytes _ _ _ hz hf) _
   · exact hf
 · exact hz
theorem vb_ten (n : Nat) (h : n < 18446744073709551616) : (vb n).length ≤ 10 := vb_le_ten h
theorem sv_ways (g : Nat) (b zs : List Int) (s m stop keep : Int) (hg : g < 18446744073709551616) (h0 : 0 ≤ stop) (k0 : 0 ≤ keep) :
 (65536 < (svIn g b).length ∧ svE g b m stop keep = 2 ∧ svL g b zs s m stop keep = zs ∧ svS g b zs s m stop keep = s) ∨
 ((svIn g b).length ≤ 65536 ∧ (((g + 1) % 18446744073709551616 = 0 ∨ ((g + 1) % 18446744073709551616 ≠ 0 ∧ m < ((svF g b).length : Int))) ∧ svE g b m stop keep = 12 ∧ svL g b zs s m stop keep = zs ∧ svS g b zs s m stop keep = s ∨
  ((g + 1) % 18446744073709551616 ≠ 0 ∧ ((svF g b).length : Int) ≤ m) ∧ svE g b m stop keep = 0 ∧
   (stop < 3 ∧ svL g b zs s m stop keep = crL (stepL zs (svF g b) stop.toNat) (stepS s (svF g b) stop.toNat) keep ∧ svS g b zs s m stop keep = crS (stepL zs (svF g b) stop.toNat) (stepS s (svF g b) stop.toNat) keep ∨
    3 ≤ stop ∧ svL g b zs s m stop keep = svF g b ∧ svS g b zs s m stop keep = ((svF g b).length : Int)))) := by
 have hn : ¬ (stop < 0 ∨ keep < 0) := by omega
 by_cases h1 : 65536 < (svIn g b).length
 · have e : svE g b m stop keep = 2 := by unfold svE; rw [if_neg hn, if_pos h1]
   refine .inl ⟨h1, e, ?_, ?_⟩
   · unfold svL; rw [e, if_neg (by decide)]
   · unfold svS; rw [e, if_neg (by decide)]
 · refine .inr ⟨by omega, ?_⟩
   by_cases h2 : g = 18446744073709551615 ∨ m < ((svF g b).length : Int)
   · have e : svE g b m stop keep = 12 := by unfold svE; rw [if_neg hn, if_neg h1, if_pos h2]
     refine .inl ⟨by omega, e, ?_, ?_⟩
     · unfold svL; rw [e, if_neg (by decide)]
     · unfold svS; rw [e, if_neg (by decide)]
   · have e : svE g b m stop keep = 0 := by unfold svE; rw [if_neg hn, if_neg h1, if_neg h2]
     refine .inr ⟨by omega, e, ?_⟩
     unfold svL svS
     rw [if_pos e, if_pos e]
     by_cases h3 : stop < 3
     · rw [if_pos h3, if_pos h3]; exact .inl ⟨h3, rfl, rfl⟩
     · rw [if_neg h3, if_neg h3]; exact .inr ⟨by omega, rfl, rfl⟩
theorem sv_arg (g : Nat) (b zs : List Int) (s m stop keep : Int) (h : stop < 0 ∨ keep < 0) : svE g b m stop keep = 1 ∧ svL g b zs s m stop keep = zs ∧ svS g b zs s m stop keep = s := by
 have e : svE g b m stop keep = 1 := by unfold svE; rw [if_pos h]
 refine ⟨e, ?_, ?_⟩
 · unfold svL; rw [e, if_neg (by decide)]
 · unfold svS; rw [e, if_neg (by decide)]
theorem svF_len (g : Nat) (b : List Int) (hg : g < 18446744073709551616) (h : (svIn g b).length ≤ 65536) : (svF g b).length ≤ 65550 := by
 unfold svF
 rw [frameF_length]
 have := vb_ten (svIn g b).length (by omega)
 omega
end Go.Proofs.Ytmbnjgnmblgjoaa.Man
end
section
namespace Go.Proofs.Ytmbnjgnmblgjoaa.Man
open Go.RowKit Go.Proofs.YtmbnjgnmblgjoaaW.PrintWords Go.Proofs.YtmbnjgnmblgjoaaW.PrintLast Go.Proofs.YtmbnjgnmblgjoaaW.PrintMore
set_option linter.unusedVariables false
set_option linter.unusedSimpArgs false
set_option maxRecDepth 100000
theorem sroom_no {w : World} {base B : Nat} {v : Value} {xs : List Int} {s m : Int} (h : DiskS w base B v xs s m) (A : Option Addr) (c : Nat) (f : List Int) (hf : Kd.C (Kd.int .u8) w A f.length f) (hm : m < (f.length : Int)) :
 Calls Try.prog 115 #[SaveV B A f.length c] w fun e w' => e = .returned (.bool false) ∧ Below w.heap.size w w' := by
 have hbe : Below w.heap.size w (w.alloc (.cells #[.pointer (some ⟨B, 0, none⟩), .slice A f.length c] 169)) := (Below.refl _ _).alloc (Nat.le_refl _) _
 obtain ⟨w0, hw0⟩ : ∃ w0, w0 = w.alloc (.cells #[.pointer (some ⟨B, 0, none⟩), .slice A f.length c] 169) := ⟨_, rfl⟩
 have hz : w0.heap.size = w.heap.size + 1 := by rw [hw0]; exact World.size_alloc _ _
 have hk : w0.heap[w.heap.size]? = some (.cells #[.pointer (some ⟨B, 0, none⟩), .slice A f.length c] 169 (0, 0)) := by rw [hw0]; exact World.alloc_heap_new w _
 rw [← hw0] at hbe
 have H := Lib.hid (h.below hbe (Nat.le_refl _))
 have HF := Lib.hid (Kd.C_below hf hbe)
 have HB := Lib.hid hbe
 have HK := Lib.hid hk
 have HZ := Lib.hid hz
 have HW := Lib.hid hw0
 have hcell : ∀ W, Below w0.heap.size w0 W → W.cell? ⟨w.heap.size, 1, none⟩ = some (.slice A f.length c) := fun W hW => by
  have := (hW.block w.heap.size (by omega)).trans hk
  simp [World.cell?, this]
 have HCE := Lib.hid hcell
 clear h hbe hf hk hz hcell hw0
 unfold SaveV
 go_enter Try.func115, Try.ntmps115
 go_wp2_with (first
  | (go_at_call 37; rw [← HW.out]; refine (copy_is H.out).mono ?_; rintro e w1 ⟨B1, v1, rfl, hd, hb⟩; have HD1 := Lib.hid hd; have HB1 := Lib.hid hb; clear hd hb)
  | (go_at_call 35; refine (cut_is HD1.out 0 (Nat.zero_le _)).mono ?_; rintro e w2 ⟨rfl, v2, hd, hs⟩; rw [List.take_zero] at hd; have HD2 := Lib.hid hd; have hb2 := HB1.out.trans (hs.below HD1.out); have HB2 := Lib.hid hb2; have hc1 := HCE.out _ hb2; clear hd hs hb2)
  | (go_at_call 29; refine (append_full HD2.out A f.length c HF.out.2.1 (by simp only [List.length_nil]; omega)).mono ?_; rintro e w3 ⟨rfl, n3, rfl⟩; have HB3 := Lib.hid (pw_below_drewN HB2.out n3)))
 go_ret
 exact ⟨rfl, HB.out.trans (HB3.out.mono HB.out.size)⟩
set_option maxHeartbeats 16000000 in
theorem save_go {w : World} {S BX BY : Nat} (hS : StoreS w S BX BY) (h : Held) (o : Int) (hn : Calls Try.prog 114 #[.pointer (some ⟨S, 0, none⟩)] w (NewPost w h o))
 {base BT : Nat} {v : Value} {zs : List Int} {s m : Int} (hT : DiskS w base BT v zs s m) (ho : (o = 0 ∧ BT = BX) ∨ (o = 1 ∧ BT = BY)) (A0 : Option Addr) (c0 : Nat) (b : List Int) (hb : Kd.C (Kd.int .u8) w A0 b.length b) (hB : areBytesN b = true) (hl : b.length ≤ 140737488351232)
 (g : Nat) (hg : h.2.1 = (g : Int)) (hg1 : g < 18446744073709551616) (stop keep : Int) (hs0 : 0 ≤ stop) (hs1 : stop < 9223372036854775808) (hk0 : 0 ≤ keep) (hk1 : keep ≤ 9223372036854775807) :
 Calls Try.prog 55 #[.pointer (some ⟨S, 0, none⟩), .slice A0 b.length c0, .int .i64 stop, .int .i64 keep] w fun e w' => e = .returned (.int .i64 (svE g b m stop keep)) ∧ ∃ v', DStep w w' BT v v' ∧ DiskS w' base BT v' (svL g b zs s m stop keep) (svS g b zs s m stop keep) m := by
 obtain ⟨st, rfl⟩ : ∃ st : Nat, stop = (st : Int) := ⟨stop.toNat, by omega⟩
 have hbase : base ≤ w.heap.size := by have := hT.at_; have := hT.cells.lt; omega
 have hSl := hS.lt
 have hsp := sv_ways g b zs s m st keep hg1 hs0 hk0
 have hfl := svF_len g b hg1
 have hm1 : m ≤ 262144 := hT.m1
 rw [Int.toNat_natCast] at hsp
 obtain ⟨E, hE⟩ : ∃ E, svE g b m st keep = E := ⟨_, rfl⟩
 obtain ⟨L, hL⟩ : ∃ L, svL g b zs s m st keep = L := ⟨_, rfl⟩
 obtain ⟨Z, hZ⟩ : ∃ Z, svS g b zs s m st keep = Z := ⟨_, rfl⟩
 rw [hE, hL, hZ] at hsp ⊢
 clear hs0 hs1 hE hL hZ
 have HS := Lib.hid hS
 have HN := Lib.hid hn
 have HT := Lib.hid hT
 have HBC := Lib.hid hb
 have hU : IntKind.u64.wrap ((g : Int) + 1) = (((g + 1) % 18446744073709551616 : Nat) : Int) := by rw [IntKind.wrap_u64]; omega
 have hv2 : (vb ((g + 1) % 18446744073709551616)).length ≤ 10 := vb_ten _ (Nat.mod_lt _ (by decide))
 have HU1 : Small64 ((g + 1) % 18446744073709551616) := Nat.mod_lt _ (by decide)
 have hfb := svIn_bytes g b hB
 have hwr : wrapF (svIn g b) = if 65536 < (svIn g b).length then ([], 2) else (svF g b, 0) := rfl
 have hin : vb ((g + 1) % 18446744073709551616) ++ b = svIn g b := rfl
 obtain ⟨n, hn1⟩ : ∃ n, (g + 1) % 18446744073709551616 = n := ⟨_, rfl⟩
 rw [hn1] at hsp hU hv2 HU1 hin
 obtain ⟨vg, hvg⟩ : ∃ vg, vb n = vg := ⟨_, rfl⟩
 rw [hvg] at hv2 hin
 have HVG := Lib.hid hvg
 obtain ⟨in_, hin_⟩ : ∃ x, svIn g b = x := ⟨_, rfl⟩
 obtain ⟨f, hf⟩ : ∃ f, svF g b = f := ⟨_, rfl⟩
 rw [hin_] at hsp hfl hfb hwr hin
 rw [hf] at hsp hfl hwr
 have HIN := Lib.hid hin
 have HFB := Lib.hid hfb
 have HWR := Lib.hid hwr
 have HSP := Lib.hid hsp
 have HFL := Lib.hid hfl
 obtain ⟨hb_, hgi, hi⟩ := h
 simp only at hg HN
 subst hg
 clear hS hn hT hb hB hvg hin hin_ hf hfb hwr hfl hn1 hsp hg1
 have HLV : Fits b.length vg.length := ⟨hl, hv2⟩
 clear hl hv2
 rcases HSP.out with hs2 | hs2
 · have HS2 := Lib.hid hs2
   obtain ⟨q1, rfl, rfl, rfl⟩ := hs2
   have HW2 : Hid (wrapF in_ = ([], 2)) := Lib.hid (by rw [HWR.out, if_pos q1])
   clear HSP HS2 q1
   go_enter Try.func55, Try.ntmps55
   go_upto_region 7 with (first
    | (go_at_call 113; refine (snone_is HS.out).mono ?_; rintro e w' ⟨rfl, rfl⟩)
    | (go_at_call 114; refine HN.out.mono ?_; rintro e w1 ⟨A1, k1, rfl, hc, hb⟩; unfold hval; have HB1 := Lib.hid hb; clear hc hb))
   obtain ⟨w2, hw2⟩ : ∃ w2, w1.alloc (.cells #[.slice A1 hb_.length k1, .int .u64 g, .bool hi] 165) = w2 := ⟨_, rfl⟩
   have hb2 : Below w1.heap.size w1 w2 := by rw [← hw2]; exact (Below.refl _ _).alloc (Nat.le_refl _) _
   have k9 : HeldAt w2 w1.heap.size (.slice A1 hb_.length k1) (.int .u64 g) (.bool hi) := by rw [← hw2]; exact World.alloc_heap_new w1 _
   rw [hw2]
   clear hw2
   have K9 := Lib.hid k9
   have HB2 := Lib.hid (HB1.out.trans (hb2.mono HB1.out.size))
   have z1 := k9.c1
   have HBX := Lib.hid (C_box w2 .u64 (n : Int) 90)
   have hbe : Below w2.heap.size w2 (w2.alloc (.cells #[.int .u64 (n : Int)] 90)) := (Below.refl _ _).alloc (Nat.le_refl _) _
   have HBE := Lib.hid hbe
   have HNil := Lib.hid (C_nil (w2.alloc (.cells #[.int .u64 (n : Int)] 90)) .u8)
   clear k9 hb2 hbe
   go_upto_region 10 with (first
    | (go_at_call 89; refine (put_any none (some ⟨w2.heap.size, 0, none⟩) 0 1 [] [(n : Int)] _ HNil.out HBX.out (u64_one n HU1) (by rw [vbs_one, HVG.out, List.nil_append]; have h7 := HLV; unfold Fits at h7; omega)).mono ?_; rintro e w3 ⟨v3, rfl, hr, hb⟩; rw [vbs_one, HVG.out, List.nil_append] at hr; obtain ⟨A3, k3, rfl, _, _⟩ := BR.len hr; have HR3 := Lib.hid (Kd.R_lower hr HBE.out.size); have HX3 := Lib.hid (HBE.out.trans (hb.mono HBE.out.size)); clear hr hb)
    | (at_builtin; refine BR.append_ev (w := w3) (base := w2.heap.size) HR3.out (Kd.C_below (Kd.C_below HBC.out HB2.out) HX3.out) rfl (.tmp 34) (.tmp 35) rfl rfl rfl HX3.out.size (by have h7 := HLV; unfold Fits at h7; omega) ?_; intro v4 w4 hr hb hat; rw [HIN.out] at hr; obtain ⟨A4, k4, rfl, _, hC4⟩ := BR.len hr; have HC4 := Lib.hid hC4; have HX4 := Lib.hid (HX3.out.trans hb); clear hr hb hat hC4)
    | (go_at_call 21; refine (wrap_any A4 k4 in_ w4 HC4.out HFB.out).mono ?_; rintro e w5 ⟨v5, rfl, hr, hb⟩; rw [HW2.out] at hr; rw [HW2.out]; have HR5 := Lib.hid hr; obtain ⟨A5, k5, rfl, hk5, hC5⟩ := BR.len hr; have HC5 := Lib.hid hC5; have HZ4 := Lib.hid (Nat.le_trans HB2.out.size HX4.out.size); have HX5 := Lib.hid (HX4.out.trans (hb.mono HX4.out.size)); have HB5 := Lib.hid (HB2.out.trans (HX5.out.mono HB2.out.size)); have k9 := K9.out.below HX5.out K9.out.lt; have z1 := k9.c1; have K95 := Lib.hid k9; clear hr hb hC5 k9))
   go_wp2_with (fail)
   go_ret
   exact ⟨rfl, v, DStep.of_below BT v HB5.out, HT.out.below HB5.out (Nat.le_refl _)⟩
 obtain ⟨q1, hs2⟩ := hs2
 have HW2 : Hid (wrapF in_ = (f, 0)) := Lib.hid (by rw [HWR.out, if_neg (by omega)])
 have hfm : f.length ≤ 65550 := HFL.out q1
 clear HSP q1
 have HS2 := Lib.hid hs2
 clear hs2
 go_enter Try.func55, Try.ntmps55
 go_upto_region 7 with (first
  | (go_at_call 113; refine (snone_is HS.out).mono ?_; rintro e w' ⟨rfl, rfl⟩)
  | (go_at_call 114; refine HN.out.mono ?_; rintro e w1 ⟨A1, k1, rfl, hc, hb⟩; unfold hval; have HB1 := Lib.hid hb; clear hc hb))
 obtain ⟨w2, hw2⟩ : ∃ w2, w1.alloc (.cells #[.slice A1 hb_.length k1, .int .u64 g, .bool hi] 165) = w2 := ⟨_, rfl⟩
 have hb2 : Below w1.heap.size w1 w2 := by rw [← hw2]; exact (Below.refl _ _).alloc (Nat.le_refl _) _
 have k9 : HeldAt w2 w1.heap.size (.slice A1 hb_.length k1) (.int .u64 g) (.bool hi) := by rw [← hw2]; exact World.alloc_heap_new w1 _
 rw [hw2]
 clear hw2
 have K9 := Lib.hid k9
 have HB2 := Lib.hid (HB1.out.trans (hb2.mono HB1.out.size))
 have z1 := k9.c1
 have HBX := Lib.hid (C_box w2 .u64 (n : Int) 90)
 have hbe : Below w2.heap.size w2 (w2.alloc (.cells #[.int .u64 (n : Int)] 90)) := (Below.refl _ _).alloc (Nat.le_refl _) _
 have HBE := Lib.hid hbe
 have HNil := Lib.hid (C_nil (w2.alloc (.cells #[.int .u64 (n : Int)] 90)) .u8)
 clear k9 hb2 hbe
 go_upto_region 10 with (first
  | (go_at_call 89; refine (put_any none (some ⟨w2.heap.size, 0, none⟩) 0 1 [] [(n : Int)] _ HNil.out HBX.out (u64_one n HU1) (by rw [vbs_one, HVG.out, List.nil_append]; have h7 := HLV; unfold Fits at h7; omega)).mono ?_; rintro e w3 ⟨v3, rfl, hr, hb⟩; rw [vbs_one, HVG.out, List.nil_append] at hr; obtain ⟨A3, k3, rfl, _, _⟩ := BR.len hr; have HR3 := Lib.hid (Kd.R_lower hr HBE.out.size); have HX3 := Lib.hid (HBE.out.trans (hb.mono HBE.out.size)); clear hr hb)
  | (at_builtin; refine BR.append_ev (w := w3) (base := w2.heap.size) HR3.out (Kd.C_below (Kd.C_below HBC.out HB2.out) HX3.out) rfl (.tmp 34) (.tmp 35) rfl rfl rfl HX3.out.size (by have h7 := HLV; unfold Fits at h7; omega) ?_; intro v4 w4 hr hb hat; rw [HIN.out] at hr; obtain ⟨A4, k4, rfl, _, hC4⟩ := BR.len hr; have HC4 := Lib.hid hC4; have HX4 := Lib.hid (HX3.out.trans hb); clear hr hb hat hC4)
  | (go_at_call 21; refine (wrap_any A4 k4 in_ w4 HC4.out HFB.out).mono ?_; rintro e w5 ⟨v5, rfl, hr, hb⟩; rw [HW2.out] at hr; rw [HW2.out]; have HR5 := Lib.hid hr; obtain ⟨A5, k5, rfl, hk5, hC5⟩ := BR.len hr; have HC5 := Lib.hid hC5; have HZ4 := Lib.hid (Nat.le_trans HB2.out.size HX4.out.size); have HX5 := Lib.hid (HX4.out.trans (hb.mono HX4.out.size)); have HB5 := Lib.hid (HB2.out.trans (HX5.out.mono HB2.out.size)); have k9 := K9.out.below HX5.out K9.out.lt; have z1 := k9.c1; have K95 := Lib.hid k9; clear hr hb hC5 k9))
 clear HBX HBE HNil HR3 HX3 HC4 HX4
 have hs5 := HS.out.below HB5.out hSl
 have sc0 := hs5.c0
 have sc1 := hs5.c1
 clear hs5
 have hk6 : SaveAt (w5.alloc (.cells #[.pointer (some ⟨BT, 0, none⟩), .slice A5 f.length k5] 169)) w5.heap.size BT A5 f.length k5 := World.alloc_heap_new w5 _
 have hb6 : Below w5.heap.size w5 (w5.alloc (.cells #[.pointer (some ⟨BT, 0, none⟩), .slice A5 f.length k5] 169)) := (Below.refl _ _).alloc (Nat.le_refl _) _
 obtain ⟨w6, hw6⟩ : ∃ w6, w5.alloc (.cells #[.pointer (some ⟨BT, 0, none⟩), .slice A5 f.length k5] 169) = w6 := ⟨_, rfl⟩
 rw [hw6] at hk6 hb6
 have HW6 := Lib.hid hw6
 have HK6 := Lib.hid hk6
 have HB6 := Lib.hid hb6
 have HT6 := Lib.hid (HT.out.below (HB5.out.trans (hb6.mono HB5.out.size)) (Nat.le_refl _))
 have HC6 := Lib.hid (Kd.C_below HC5.out hb6)
 have k9 := K95.out.below hb6 K95.out.lt
 have z1' := k9.c1
 have HBT : Hid (BT < w.heap.size ∧ w.heap.size ≤ w5.heap.size ∧ ∀ k, v.ownBlock = some k → k < w.heap.size) := Lib.hid ⟨HT.out.cells.lt, HB5.out.size, fun k hk => (HT.out.row.block hk).2.1⟩
 have HA5 : Hid (∀ ad, A5 = some ad → w.heap.size ≤ ad.block ∧ ad.block < w5.heap.size) := Lib.hid fun ad e => by
  have e2 : Value.ownBlock (.slice A5 f.length k5) = some ad.block := by rw [e]; rfl
  exact ⟨Nat.le_trans HZ4.out (BR.base HR5.out e2), own_lt (Kd.own_of_R HR5.out) _ e2⟩
 have c60 := hk6.c0
 have c61 := hk6.c1
 clear hk6 hb6 hw6 k9
 rcases ho with ⟨rfl, rfl⟩ | ⟨rfl, rfl⟩
 all_goals
  rcases HS2.out with ⟨q, rfl, rfl, rfl⟩ | ⟨⟨q1, q2⟩, rfl, q3⟩
  · rcases q with rfl | ⟨q1, q2⟩
    · go_upto_region 11 with (fail)
      rw [HW6.out]
      go_wp2_with (fail)
      go_ret
      exact ⟨rfl, v, DStep.of_below BT v (HB5.out.trans (HB6.out.mono HB5.out.size)), HT6.out⟩
    · have hn0 : ((n : Int) == 0) = false := by simp; omega
      go_upto_region 11 with (fail)
      rw [HW6.out]
      go_wp2_with (go_at_call 115; refine (sroom_no HT6.out A5 k5 f HC6.out q2).mono ?_; rintro e w7 ⟨rfl, hb⟩; have HB7 := Lib.hid hb; clear hb)
      go_ret
      exact ⟨rfl, v, DStep.of_below BT v ((HB5.out.trans (HB6.out.mono HB5.out.size)).trans (HB7.out.mono (Nat.le_trans HB5.out.size HB6.out.size))), HT6.out.below HB7.out (Nat.le_refl _)⟩
  have hn0 : ((n : Int) == 0) = false := by simp; omega
  have HQ3 := Lib.hid q3
  clear q3
  go_upto_region 11 with (fail)
  rw [HW6.out]
  go_upto_region 13 with (go_at_call 115; refine (sroom_is HT6.out A5 k5 f HC6.out q2).mono ?_; rintro e w7 ⟨rfl, hb⟩; have HB7 := Lib.hid hb; have hk7 := HK6.out.below hb HK6.out.lt; have c70 := hk7.c0; have c71 := hk7.c1; have HK7 := Lib.hid hk7; clear hb hk7)
  have HT7 := Lib.hid (HT6.out.below HB7.out (Nat.le_refl _))
  have HB57 := Lib.hid (HB6.out.trans (HB7.out.mono HB6.out.size))
  have HC7 := Lib.hid (Kd.C_below HC6.out HB7.out)
  have HST := HBT.out
  have hmv : ∀ wr v', DStep w7 wr BT v v' → SaveAt wr w5.heap.size BT A5 f.length k5 ∧ Kd.C (Kd.int .u8) wr A5 f.length f := fun wr v' hd => by
   obtain ⟨q1, q2, q3⟩ := HBT.out
   have q4 := HK7.out.lt
   have q5 := HB57.out.size
   refine ⟨(hd.block _ q4 (by omega) (fun e => by have := q3 _ e.symm; omega)).trans HK7.out, C_moveK HC7.out fun ad e => ?_⟩
   obtain ⟨r1, r2⟩ := HA5.out ad e
   exact hd.block _ (by omega) (by omega) (fun e => by have := q3 _ e.symm; omega)
  have HMV := Lib.hid hmv
  have HD0 := Lib.hid (DStep.of_below BT v (HB5.out.trans (HB57.out.mono HB5.out.size)))
  clear hmv HST sc0 sc1 z1 z1'
  go_wp2_with (fail)
  go_loopg [66] 4 (fun gg s66 wr => ∃ i : Nat, s66 = .int .i64 i ∧ i ≤ 3 ∧ gg = 4 - i ∧ Hid (∃ v', DiskS wr base BT v' (stepL zs f (min i st)) (stepS s f (min i st)) m ∧ DStep w7 wr BT v v'))
  case atStart => exact ⟨0, rfl, by omega, rfl, Lib.hid ⟨v, by rw [Nat.zero_min]; exact HT7.out, DStep.refl _ _ _⟩⟩
  case round =>
   obtain ⟨i, rfl, hi3, hgg, HI⟩ := hrel
   obtain ⟨v', HD⟩ : ∃ v', Hid (DiskS wr base BT v' (stepL zs f (min i st)) (stepS s f (min i st)) m ∧ DStep w7 wr BT v v') := ⟨HI.out.choose, Lib.hid HI.out.choose_spec⟩
   have hfi0 := fidx0 (.func (.func 116) #[.agg #[.pointer (some ⟨BT, 0, none⟩), .slice A5 f.length k5]] #[]) (.func (.func 117) #[.agg #[.pointer (some ⟨BT, 0, none⟩), .slice A5 f.length k5]] #[]) (.func (.func 118) #[.agg #[.pointer (some ⟨BT, 0, none⟩), .slice A5 f.length k5]] #[]) wr
   have hfi1 := fidx1 (.func (.func 116) #[.agg #[.pointer (some ⟨BT, 0, none⟩), .slice A5 f.length k5]] #[]) (.func (.func 117) #[.agg #[.pointer (some ⟨BT, 0, none⟩), .slice A5 f.length k5]] #[]) (.func (.func 118) #[.agg #[.pointer (some ⟨BT, 0, none⟩), .slice A5 f.length k5]] #[]) wr
   have hfi2 := fidx2 (.func (.func 116) #[.agg #[.pointer (some ⟨BT, 0, none⟩), .slice A5 f.length k5]] #[]) (.func (.func 117) #[.agg #[.pointer (some ⟨BT, 0, none⟩), .slice A5 f.length k5]] #[]) (.func (.func 118) #[.agg #[.pointer (some ⟨BT, 0, none⟩), .slice A5 f.length k5]] #[]) wr
   have HF0 := Lib.hid hfi0
   have HF1 := Lib.hid hfi1
   have HF2 := Lib.hid hfi2
   clear HI hfi0 hfi1 hfi2
   by_cases hi : i < 3
   · by_cases hst : i < st
     · have hm0 : min i st = i := by omega
       have hm1 : min (i + 1) st = i + 1 := by omega
       rw [hm0] at HD
       have HM1 := Lib.hid hm1
       clear hm0 hm1
       rcases (show i = 0 ∨ i = 1 ∨ i = 2 by omega) with rfl | rfl | rfl
       · go_wp2_with (first
          | (refine findex_ev rfl _ _ rfl rfl rfl HF0.out ?_)
          | (go_at_call 116; refine (scut_is HD.out.1 A5 f.length k5).mono ?_; rintro e w8 ⟨rfl, v8, hd, hs⟩; have HD8 := Lib.hid hd; have HS8 := Lib.hid (HD.out.2.trans hs); clear hd hs))
         go_roundg 3
         case measure => omega
         case rel => exact ⟨1, by go_num, by omega, rfl, Lib.hid ⟨v8, by rw [HM1.out]; exact HD8.out, HS8.out⟩⟩
       · go_wp2_with (first
          | (refine findex_ev rfl _ _ rfl rfl rfl HF1.out ?_)
          | (go_at_call 117; refine (swrite_is HD.out.1 A5 k5 f (HMV.out _ _ HD.out.2).2 (by omega)).mono ?_; rintro e w8 ⟨rfl, v8, hd, hs⟩; have HD8 := Lib.hid hd; have HS8 := Lib.hid (HD.out.2.trans hs); clear hd hs))
         go_roundg 2
         case measure => omega
         case rel => exact ⟨2, by go_num, by omega, rfl, Lib.hid ⟨v8, by rw [HM1.out]; exact HD8.out, HS8.out⟩⟩
       · go_wp2_with (first
          | (refine findex_ev rfl _ _ rfl rfl rfl HF2.out ?_)
          | (go_at_call 118; refine (ssync_is HD.out.1 A5 f.length k5).mono ?_; rintro e w8 ⟨rfl, v8, hd, hs⟩; have HD8 := Lib.hid hd; have HS8 := Lib.hid (HD.out.2.trans hs); clear hd hs))
         go_roundg 1
         case measure => omega
         case rel => exact ⟨3, by go_num, by omega, rfl, Lib.hid ⟨v8, by rw [HM1.out]; exact HD8.out, HS8.out⟩⟩
     · have hm1 : min (i + 1) st = min i st := by omega
       have HM1 := Lib.hid hm1
       clear hm1
       rcases (show i = 0 ∨ i = 1 ∨ i = 2 by omega) with rfl | rfl | rfl
       · go_wp2_with (refine findex_ev rfl _ _ rfl rfl rfl HF0.out ?_)
         go_roundg 3
         case measure => omega
         case rel => exact ⟨1, by go_num, by omega, rfl, Lib.hid ⟨v', by have := HM1.out; simp only [Nat.zero_add] at this; rw [this]; exact HD.out.1, HD.out.2⟩⟩
       · go_wp2_with (refine findex_ev rfl _ _ rfl rfl rfl HF1.out ?_)
         go_roundg 2
         case measure => omega
         case rel => exact ⟨2, by go_num, by omega, rfl, Lib.hid ⟨v', by rw [HM1.out]; exact HD.out.1, HD.out.2⟩⟩
       · go_wp2_with (refine findex_ev rfl _ _ rfl rfl rfl HF2.out ?_)
         go_roundg 1
         case measure => omega
         case rel => exact ⟨3, by go_num, by omega, rfl, Lib.hid ⟨v', by rw [HM1.out]; exact HD.out.1, HD.out.2⟩⟩
   · obtain rfl : i = 3 := by omega
     have hk8 := (HMV.out _ _ HD.out.2).1
     have c80 := hk8.c0
     clear hk8
     by_cases hst : st < 3
     · have hm0 : min 3 st = st := by omega
       rw [hm0] at HD
       clear hm0
       go_wp2_with (go_at_call 33; refine (crash_any HD.out.1 keep hk1).mono ?_; rintro e w9 ⟨rfl, v9, hd, hs⟩; have HD9 := Lib.hid hd; have HS9 := Lib.hid (HD0.out.trans (HD.out.2.trans hs)); clear hd hs)
       go_ret
       rcases HQ3.out with ⟨_, rfl, rfl⟩ | ⟨h3, _, _⟩
       · exact ⟨rfl, v9, HS9.out, HD9.out⟩
       · omega
     · have hm0 : min 3 st = 3 := by omega
       rw [hm0] at HD
       clear hm0
       go_wp2_with (fail)
       go_ret
       rcases HQ3.out with ⟨h3, _, _⟩ | ⟨_, rfl, rfl⟩
       · omega
       · exact ⟨rfl, v', HD0.out.trans HD.out.2, HD.out.1⟩
theorem save_arg {w : World} {S BX BY : Nat} (hS : StoreS w S BX BY) (A0 : Option Addr) (n0 c0 : Nat) (stop keep : Int) (hs : stop < 0 ∨ keep < 0) :
 Calls Try.prog 55 #[.pointer (some ⟨S, 0, none⟩), .slice A0 n0 c0, .int .i64 stop, .int .i64 keep] w fun e w' => e = .returned (.int .i64 1) ∧ w = w' := by
 have HS := Lib.hid hS
 clear hS
 rcases (show stop < 0 ∨ (¬ stop < 0 ∧ keep < 0) by omega) with q | ⟨q, q2⟩
 all_goals
  clear hs
  go_enter Try.func55, Try.ntmps55
  go_wp2_with (go_at_call 113; refine (snone_is HS.out).mono ?_; rintro e w' ⟨rfl, rfl⟩)
  go_ret
  exact ⟨rfl, rfl⟩
theorem save_any {w : World} {S BX BY : Nat} (hS : StoreS w S BX BY) (h : Held) (o : Int) (hn : Calls Try.prog 114 #[.pointer (some ⟨S, 0, none⟩)] w (NewPost w h o))
 {base BT : Nat} {v : Value} {zs : List Int} {s m : Int} (hT : DiskS w base BT v zs s m) (ho : (o = 0 ∧ BT = BX) ∨ (o = 1 ∧ BT = BY)) (A0 : Option Addr) (c0 : Nat) (b : List Int) (hb : Kd.C (Kd.int .u8) w A0 b.length b) (hB : areBytesN b = true) (hl : b.length ≤ 140737488351232)
 (g : Nat) (hg : h.2.1 = (g : Int)) (hg1 : g < 18446744073709551616) (stop keep : Int) (hs1 : stop < 9223372036854775808) (hk1 : keep ≤ 9223372036854775807) :
 Calls Try.prog 55 #[.pointer (some ⟨S, 0, none⟩), .slice A0 b.length c0, .int .i64 stop, .int .i64 keep] w fun e w' => e = .returned (.int .i64 (svE g b m stop keep)) ∧ ∃ v', DStep w w' BT v v' ∧ DiskS w' base BT v' (svL g b zs s m stop keep) (svS g b zs s m stop keep) m := by
 by_cases hs : stop < 0 ∨ keep < 0
 · obtain ⟨h1, h2, h3⟩ := sv_arg g b zs s m stop keep hs
   rw [h1, h2, h3]
   refine (save_arg hS A0 b.length c0 stop keep hs).mono ?_
   rintro e w' ⟨rfl, rfl⟩
   exact ⟨rfl, v, DStep.refl _ _ _, hT⟩
 · exact save_go hS h o hn hT ho A0 c0 b hb hB hl g hg hg1 stop keep (by omega) hs1 (by omega) hk1
end Go.Proofs.Ytmbnjgnmblgjoaa.Man
end
section
namespace Go.Proofs.YtmbnjgnmblgjoaaW.PrintWords
open Go.RowKit
section
variable {P : Program} {d : Nat} {xs ys : Array Value} {f : Field} {fs : List Field} {a b : Value} {r s : Bool} {w : World}
theorem eqf_last (hn : (f.name == "_") = false) (ha : (part f.type xs f.offset).run P w = .ok a w) (hb : (part f.type ys f.offset).run P w = .ok b w) (he : (Op.equalIn d f.type a b).run P w = .ok r w) : (Op.eqFields d xs ys [f]).run P w = .ok r w := by
 have hn' : f.name ≠ "_" := by simpa using hn
 simp only [Op.eqFields, if_pos hn', Sem.run_bind, ha, hb, he, Result.andThen_ok]
 cases r <;> simp
theorem eqf_cons (hn : (f.name == "_") = false) (ha : (part f.type xs f.offset).run P w = .ok a w) (hb : (part f.type ys f.offset).run P w = .ok b w) (he : (Op.equalIn d f.type a b).run P w = .ok r w) (hr : (Op.eqFields d xs ys fs).run P w = .ok s w) : (Op.eqFields d xs ys (f :: fs)).run P w = .ok (r && s) w := by
 have hn' : f.name ≠ "_" := by simpa using hn
 rw [Op.eqFields]
 simp only [if_pos hn', Sem.run_bind, ha, hb, he, Result.andThen_ok]
 cases r
 · simp
 · simpa using hr
theorem eqA_of {t : TypeId} {fs : Array Field} (hu : P.underlying t = some (.struct fs)) (hp : P.stoodInHeld t = false) (h : (Op.eqFields d xs ys fs.toList).run P w = .ok r w) : (Op.equalIn (d + 1) t (.agg xs) (.agg ys)).run P w = .ok r w := by
 have hf : P.fieldsOf t = fs := by simp [Program.fieldsOf, hu]
 rw [run_equalIn_struct (P := P) w d t xs ys (by rw [hf]; exact hu) hp, hf]
 exact h
end
end Go.Proofs.YtmbnjgnmblgjoaaW.PrintWords
end
section
namespace Go.Proofs.YtmbnjgnmblgjoaaW.PrintWords
open Go.RowKit
section
variable {P : Program} {ops : Array Oper} {rest : List Oper} {o : Oper} {a : Act} {Q : Exit → Act → World → Prop} {W : World}
end
end Go.Proofs.YtmbnjgnmblgjoaaW.PrintWords
end
section
namespace Go.Proofs.Ytmbnjgnmblgjoaa.P
open Go.RowKit Go.Proofs.YtmbnjgnmblgjoaaW.PrintWords Go.Proofs.YtmbnjgnmblgjoaaW.PrintLast Go.Proofs.YtmbnjgnmblgjoaaW.PrintMore
attribute [local go_sem] max2_int min2_int max_two min_two max_three min_three max_four min_four
set_option linter.unusedVariables false
set_option linter.unusedSimpArgs false
def errW : Option Int → Value
 | none => .nilIface
 | some c => .iface 0 (.int .i64 c)
theorem info5 : (Try.prog.info? 5).map (fun i => (i.zero, i.size, i.bytes)) = some (some (.int .u8 0), 1, 1) := by kernel_rfl
end Go.Proofs.Ytmbnjgnmblgjoaa.P
end
section
namespace Go.Proofs.Ytmbnjgnmblgjoaa.P
open Go.RowKit Go.Proofs.YtmbnjgnmblgjoaaW.PrintWords Go.Proofs.YtmbnjgnmblgjoaaW.PrintLast Go.Proofs.YtmbnjgnmblgjoaaW.PrintMore
attribute [local go_sem] max2_int min2_int max_two min_two max_three min_three max_four min_four
set_option linter.unusedVariables false
set_option linter.unusedSimpArgs false
def emenderref02_More.l0 : Nat → List Int → Int → Int → Int → Option (Int)
 | 0, _, _, _, _ => none
 | k + 1, x1, x5, x6, x7 => if x7 < (x1.length : Int) then (if 0 ≤ x7 then (emenderref02_More.l0 k x1 (((x5 + ((rd x1 x7) % 4294967296)) % 4294967296) % 65521) (((x6 + (((x5 + ((rd x1 x7) % 4294967296)) % 4294967296) % 65521)) % 4294967296) % 65521) (wrap64 (x7 + 1))) else (none)) else (some ((((x6 * 65536) % 4294967296) + x5) % 4294967296))
def emenderref02_More.f (k : Nat) (a0 : Int) (l1 : List Int) : Option (Int) := emenderref02_More.l0 k l1 (Int.tmod (Int.tmod a0 65536) 65521) (((Int.tdiv a0 65536) % 4294967296) % 65521) 0
theorem emenderref02_More.mono_l : ∀ k, (∀ y0 y1 y2 y3, LeO (emenderref02_More.l0 k y0 y1 y2 y3) (emenderref02_More.l0 (k + 1) y0 y1 y2 y3))
 | 0 => fun _ _ _ _ r h => by simp [emenderref02_More.l0] at h
 | k + 1 => by
  have ih0 := emenderref02_More.mono_l k
  · intro y0 y1 y2 y3
    unfold emenderref02_More.l0
    repeat' first
    | (with_reducible exact ih0 _ _ _ _)
    | (with_reducible exact LeO.refl _)
    | (with_reducible exact LeO.none _)
    | (with_reducible refine LeO.ite ?_ ?_)
    | (with_reducible refine LeO.bind ?_ (fun _ => ?_))
    | exact ih0 _ _ _ _
    | exact LeO.none _
    | refine LeO.ite ?_ ?_
    | refine LeO.bind ?_ (fun _ => ?_)
theorem emenderref02_More.mono : ∀ a0 a1 k, LeO (emenderref02_More.f k a0 a1) (emenderref02_More.f (k + 1) a0 a1) := by
 intro a0 a1 k
 have ih0 := emenderref02_More.mono_l k
 unfold emenderref02_More.f
 repeat' first
  | (with_reducible exact ih0 _ _ _ _)
  | (with_reducible exact LeO.refl _)
  | (with_reducible exact LeO.none _)
  | (with_reducible refine LeO.ite ?_ ?_)
  | (with_reducible refine LeO.bind ?_ (fun _ => ?_))
  | exact ih0 _ _ _ _
  | exact LeO.none _
  | refine LeO.ite ?_ ?_
  | refine LeO.bind ?_ (fun _ => ?_)
def emenderref02_Of.f (k : Nat) (l0 : List Int) : Option (Int) := (emenderref02_More.f k 1 l0).bind fun t102 => (some t102)
theorem emenderref02_Of.mono : ∀ a0 k, LeO (emenderref02_Of.f k a0) (emenderref02_Of.f (k + 1) a0) := by
 intro a0 k
 unfold emenderref02_Of.f
 repeat' first
  | (with_reducible exact emenderref02_More.mono _ _ _)
  | (with_reducible exact LeO.refl _)
  | (with_reducible exact LeO.none _)
  | (with_reducible refine LeO.ite ?_ ?_)
  | (with_reducible refine LeO.bind ?_ (fun _ => ?_))
  | exact emenderref02_More.mono _ _ _
  | exact LeO.none _
  | refine LeO.ite ?_ ?_
  | refine LeO.bind ?_ (fun _ => ?_)
mutual
def emenderref01_Get.j0 : Nat → List Int → Int → Bool → Option (Int × Int × Int)
 | 0, _, _, _ => none
 | k + 1, x0, x1, x17 => if x17 = true then (some (0, 0, 1)) else (emenderref01_Get.l0 k x0 x1 0 0)
def emenderref01_Get.l0 : Nat → List Int → Int → Int → Int → Option (Int × Int × Int)
 | 0, _, _, _, _ => none
 | k + 1, x0, x1, x7, x8 => if x8 < 10 then (if (wrap64 (x1 + x8)) ≥ (x0.length : Int) then (some (0, (x0.length : Int), 3)) else (if 0 ≤ (wrap64 (x1 + x8)) then (if (wrap64 (x1 + x8)) < (x0.length : Int) then (if (rd x0 (wrap64 (x1 + x8))) = 0 then (if x8 > 0 then (emenderref01_Get.j2 k x0 x1 x7 x8 (rd x0 (wrap64 (x1 + x8))) true) else (if x8 = 9 then (emenderref01_Get.j2 k x0 x1 x7 x8 (rd x0 (wrap64 (x1 + x8))) (decide ((rd x0 (wrap64 (x1 + x8))) > 1))) else (emenderref01_Get.j2 k x0 x1 x7 x8 (rd x0 (wrap64 (x1 + x8))) false))) else (if x8 = 9 then (emenderref01_Get.j2 k x0 x1 x7 x8 (rd x0 (wrap64 (x1 + x8))) (decide ((rd x0 (wrap64 (x1 + x8))) > 1))) else (emenderref01_Get.j2 k x0 x1 x7 x8 (rd x0 (wrap64 (x1 + x8))) false))) else (none)) else (none))) else (some (0, 0, 4))
def emenderref01_Get.j2 : Nat → List Int → Int → Int → Int → Int → Bool → Option (Int × Int × Int)
 | 0, _, _, _, _, _, _ => none
 | k + 1, x0, x1, x7, x8, x9, x49 => if x49 = true then (some (0, wrap64 (x1 + x8), 4)) else (if 0 ≤ (wrap64 (7 * x8)) then (if x9 < 128 then (some (Go.bits .or .u64 x7 (shl .u64 (IntKind.u64.wrap (Go.bits .and .u8 x9 127)) (wrap64 (7 * x8))), wrap64 ((wrap64 (x1 + x8)) + 1), 0)) else (emenderref01_Get.l0 k x0 x1 (Go.bits .or .u64 x7 (shl .u64 (IntKind.u64.wrap (Go.bits .and .u8 x9 127)) (wrap64 (7 * x8)))) (wrap64 (x8 + 1)))) else (none))
end
def emenderref01_Get.f (k : Nat) (l0 : List Int) (a1 : Int) : Option (Int × Int × Int) := if a1 < 0 then (emenderref01_Get.j0 k l0 a1 true) else (emenderref01_Get.j0 k l0 a1 (decide (a1 > (l0.length : Int))))
theorem emenderref01_Get.mono_l : ∀ k, (∀ y0 y1 y2, LeO (emenderref01_Get.j0 k y0 y1 y2) (emenderref01_Get.j0 (k + 1) y0 y1 y2)) ∧ (∀ y0 y1 y2 y3, LeO (emenderref01_Get.l0 k y0 y1 y2 y3) (emenderref01_Get.l0 (k + 1) y0 y1 y2 y3)) ∧ (∀ y0 y1 y2 y3 y4 y5, LeO (emenderref01_Get.j2 k y0 y1 y2 y3 y4 y5) (emenderref01_Get.j2 (k + 1) y0 y1 y2 y3 y4 y5))
 | 0 => ⟨fun _ _ _ r h => by simp [emenderref01_Get.j0] at h, fun _ _ _ _ r h => by simp [emenderref01_Get.l0] at h, fun _ _ _ _ _ _ r h => by simp [emenderref01_Get.j2] at h⟩
 | k + 1 => by
  obtain ⟨ih0, ih1, ih2⟩ := emenderref01_Get.mono_l k
  refine ⟨?_, ?_, ?_⟩
  · intro y0 y1 y2
    unfold emenderref01_Get.j0
    repeat' first
    | (with_reducible exact ih0 _ _ _)
    | (with_reducible exact ih1 _ _ _ _)
    | (with_reducible exact ih2 _ _ _ _ _ _)
    | (with_reducible exact LeO.refl _)
    | (with_reducible exact LeO.none _)
    | (with_reducible refine LeO.ite ?_ ?_)
    | (with_reducible refine LeO.bind ?_ (fun _ => ?_))
    | exact ih0 _ _ _
    | exact ih1 _ _ _ _
    | exact ih2 _ _ _ _ _ _
    | exact LeO.none _
    | refine LeO.ite ?_ ?_
    | refine LeO.bind ?_ (fun _ => ?_)
  · intro y0 y1 y2 y3
    unfold emenderref01_Get.l0
    repeat' first
    | (with_reducible exact ih0 _ _ _)
    | (with_reducible exact ih1 _ _ _ _)
    | (with_reducible exact ih2 _ _ _ _ _ _)
    | (with_reducible exact LeO.refl _)
    | (with_reducible exact LeO.none _)
    | (with_reducible refine LeO.ite ?_ ?_)
    | (with_reducible refine LeO.bind ?_ (fun _ => ?_))
    | exact ih0 _ _ _
    | exact ih1 _ _ _ _
    | exact ih2 _ _ _ _ _ _
    | exact LeO.none _
    | refine LeO.ite ?_ ?_
    | refine LeO.bind ?_ (fun _ => ?_)
  · intro y0 y1 y2 y3 y4 y5
    unfold emenderref01_Get.j2
    repeat' first
    | (with_reducible exact ih0 _ _ _)
    | (with_reducible exact ih1 _ _ _ _)
    | (with_reducible exact ih2 _ _ _ _ _ _)
    | (with_reducible exact LeO.refl _)
    | (with_reducible exact LeO.none _)
    | (with_reducible refine LeO.ite ?_ ?_)
    | (with_reducible refine LeO.bind ?_ (fun _ => ?_))
    | exact ih0 _ _ _
    | exact ih1 _ _ _ _
    | exact ih2 _ _ _ _ _ _
    | exact LeO.none _
    | refine LeO.ite ?_ ?_
    | refine LeO.bind ?_ (fun _ => ?_)
theorem emenderref01_Get.mono : ∀ a0 a1 k, LeO (emenderref01_Get.f k a0 a1) (emenderref01_Get.f (k + 1) a0 a1) := by
 intro a0 a1 k
 obtain ⟨ih0, ih1, ih2⟩ := emenderref01_Get.mono_l k
 unfold emenderref01_Get.f
 repeat' first
  | (with_reducible exact ih0 _ _ _)
  | (with_reducible exact ih1 _ _ _ _)
  | (with_reducible exact ih2 _ _ _ _ _ _)
  | (with_reducible exact LeO.refl _)
  | (with_reducible exact LeO.none _)
  | (with_reducible refine LeO.ite ?_ ?_)
  | (with_reducible refine LeO.bind ?_ (fun _ => ?_))
  | exact ih0 _ _ _
  | exact ih1 _ _ _ _
  | exact ih2 _ _ _ _ _ _
  | exact LeO.none _
  | refine LeO.ite ?_ ?_
  | refine LeO.bind ?_ (fun _ => ?_)
def emenderref16_Open.j0 : Nat → List Int → Int → Bool → Option (List Int × Int × Int)
 | 0, _, _, _ => none
 | k + 1, x0, x1, x20 => if x20 = true then (some (([] : List Int), x1, 1)) else ((emenderref01_Get.f k x0 x1).bind fun bt104 => (if bt104.2.2 = 0 then (if bt104.1 > 65536 then (some (([] : List Int), x1, 4)) else (if (wrap64 ((x0.length : Int) - 4)) < (wrap64 (bt104.2.1 + (wrap64 (bt104.1)))) then (some (([] : List Int), x1, 3)) else (if 0 ≤ (wrap64 (bt104.2.1 + (wrap64 (bt104.1)))) then (if (wrap64 (bt104.2.1 + (wrap64 (bt104.1)))) < (x0.length : Int) then (if 0 ≤ (wrap64 ((wrap64 (bt104.2.1 + (wrap64 (bt104.1)))) + 1)) then (if (wrap64 ((wrap64 (bt104.2.1 + (wrap64 (bt104.1)))) + 1)) < (x0.length : Int) then (if 0 ≤ (wrap64 ((wrap64 (bt104.2.1 + (wrap64 (bt104.1)))) + 2)) then (if (wrap64 ((wrap64 (bt104.2.1 + (wrap64 (bt104.1)))) + 2)) < (x0.length : Int) then (if 0 ≤ (wrap64 ((wrap64 (bt104.2.1 + (wrap64 (bt104.1)))) + 3)) then (if (wrap64 ((wrap64 (bt104.2.1 + (wrap64 (bt104.1)))) + 3)) < (x0.length : Int) then ((some (([] : List Int) : List Int)).bind fun y111 => (if 0 ≤ bt104.2.1 then (if bt104.2.1 ≤ (wrap64 (bt104.2.1 + (wrap64 (bt104.1)))) then (if (wrap64 (bt104.2.1 + (wrap64 (bt104.1)))) ≤ (x0.length : Int) then (if y111.length + ((x0.take ((wrap64 (bt104.2.1 + (wrap64 (bt104.1)))) : Int).toNat).drop (bt104.2.1 : Int).toNat).length < 140737488355328 then ((some (y111 ++ ((x0.take ((wrap64 (bt104.2.1 + (wrap64 (bt104.1)))) : Int).toNat).drop (bt104.2.1 : Int).toNat) : List Int)).bind fun y115 => ((emenderref02_Of.f k y115).bind fun t118 => (if (Go.bits .or .u32 (Go.bits .or .u32 (Go.bits .or .u32 ((((rd x0 (wrap64 (bt104.2.1 + (wrap64 (bt104.1))))) % 4294967296) * 16777216) % 4294967296) ((((rd x0 (wrap64 ((wrap64 (bt104.2.1 + (wrap64 (bt104.1)))) + 1))) % 4294967296) * 65536) % 4294967296)) ((((rd x0 (wrap64 ((wrap64 (bt104.2.1 + (wrap64 (bt104.1)))) + 2))) % 4294967296) * 256) % 4294967296)) ((rd x0 (wrap64 ((wrap64 (bt104.2.1 + (wrap64 (bt104.1)))) + 3))) % 4294967296)) = t118 then (some (y115, wrap64 ((wrap64 (bt104.2.1 + (wrap64 (bt104.1)))) + 4), 0)) else (some (([] : List Int), x1, 10))))) else (none)) else (none)) else (none)) else (none))) else (none)) else (none)) else (none)) else (none)) else (none)) else (none)) else (none)) else (none)))) else (some (([] : List Int), x1, bt104.2.2))))
def emenderref16_Open.f (k : Nat) (l0 : List Int) (a1 : Int) : Option (List Int × Int × Int) := if a1 < 0 then (emenderref16_Open.j0 k l0 a1 true) else (emenderref16_Open.j0 k l0 a1 (decide (a1 > (l0.length : Int))))
theorem emenderref16_Open.mono_l : ∀ k, (∀ y0 y1 y2, LeO (emenderref16_Open.j0 k y0 y1 y2) (emenderref16_Open.j0 (k + 1) y0 y1 y2))
 | 0 => fun _ _ _ r h => by simp [emenderref16_Open.j0] at h
 | k + 1 => by
  have ih0 := emenderref16_Open.mono_l k
  · intro y0 y1 y2
    unfold emenderref16_Open.j0
    repeat' first
    | (with_reducible exact ih0 _ _ _)
    | (with_reducible exact emenderref01_Get.mono _ _ _)
    | (with_reducible exact emenderref02_Of.mono _ _)
    | (with_reducible exact LeO.refl _)
    | (with_reducible exact LeO.none _)
    | (with_reducible refine LeO.ite ?_ ?_)
    | (with_reducible refine LeO.bind ?_ (fun _ => ?_))
    | exact ih0 _ _ _
    | exact emenderref01_Get.mono _ _ _
    | exact emenderref02_Of.mono _ _
    | exact LeO.none _
    | refine LeO.ite ?_ ?_
    | refine LeO.bind ?_ (fun _ => ?_)
theorem emenderref16_Open.mono : ∀ a0 a1 k, LeO (emenderref16_Open.f k a0 a1) (emenderref16_Open.f (k + 1) a0 a1) := by
 intro a0 a1 k
 have ih0 := emenderref16_Open.mono_l k
 unfold emenderref16_Open.f
 repeat' first
  | (with_reducible exact ih0 _ _ _)
  | (with_reducible exact emenderref01_Get.mono _ _ _)
  | (with_reducible exact emenderref02_Of.mono _ _)
  | (with_reducible exact LeO.refl _)
  | (with_reducible exact LeO.none _)
  | (with_reducible refine LeO.ite ?_ ?_)
  | (with_reducible refine LeO.bind ?_ (fun _ => ?_))
  | exact ih0 _ _ _
  | exact emenderref01_Get.mono _ _ _
  | exact emenderref02_Of.mono _ _
  | exact LeO.none _
  | refine LeO.ite ?_ ?_
  | refine LeO.bind ?_ (fun _ => ?_)
def emenderref01_one.l0 : Nat → List Int → Int → Option (List Int)
 | 0, _, _ => none
 | k + 1, x0, x1 => if x1 ≥ 128 then (if x0.length < 140737488355328 then (emenderref01_one.l0 k (x0 ++ [(Go.bits .or .u64 (Go.bits .and .u64 x1 127) 128) % 256]) (x1 / 128)) else (none)) else (if x0.length < 140737488355328 then (some (x0 ++ [(x1) % 256])) else (none))
def emenderref01_one.f (k : Nat) (l0 : List Int) (a1 : Int) : Option (List Int) := emenderref01_one.l0 k l0 a1
theorem emenderref01_one.mono_l : ∀ k, (∀ y0 y1, LeO (emenderref01_one.l0 k y0 y1) (emenderref01_one.l0 (k + 1) y0 y1))
 | 0 => fun _ _ r h => by simp [emenderref01_one.l0] at h
 | k + 1 => by
  have ih0 := emenderref01_one.mono_l k
  · intro y0 y1
    unfold emenderref01_one.l0
    repeat' first
    | (with_reducible exact ih0 _ _)
    | (with_reducible exact LeO.refl _)
    | (with_reducible exact LeO.none _)
    | (with_reducible refine LeO.ite ?_ ?_)
    | (with_reducible refine LeO.bind ?_ (fun _ => ?_))
    | exact ih0 _ _
    | exact LeO.none _
    | refine LeO.ite ?_ ?_
    | refine LeO.bind ?_ (fun _ => ?_)
theorem emenderref01_one.mono : ∀ a0 a1 k, LeO (emenderref01_one.f k a0 a1) (emenderref01_one.f (k + 1) a0 a1) := by
 intro a0 a1 k
 have ih0 := emenderref01_one.mono_l k
 unfold emenderref01_one.f
 repeat' first
  | (with_reducible exact ih0 _ _)
  | (with_reducible exact LeO.refl _)
  | (with_reducible exact LeO.none _)
  | (with_reducible refine LeO.ite ?_ ?_)
  | (with_reducible refine LeO.bind ?_ (fun _ => ?_))
  | exact ih0 _ _
  | exact LeO.none _
  | refine LeO.ite ?_ ?_
  | refine LeO.bind ?_ (fun _ => ?_)
end Go.Proofs.Ytmbnjgnmblgjoaa.P
end
section
namespace Go.Proofs.Ytmbnjgnmblgjoaa.Man
open Go.RowKit Go.Proofs.YtmbnjgnmblgjoaaW.PrintWords Go.Proofs.YtmbnjgnmblgjoaaW.PrintLast Go.Proofs.YtmbnjgnmblgjoaaW.PrintMore
set_option linter.unusedVariables false
set_option linter.unusedSimpArgs false
theorem ref_run (l : List Int) (hB : areBytesN l = true) (hl : l.length ≤ 140737488351232) (d : Nat) : ∀ (k i : Nat) (x y : Int), i ≤ l.length → l.length - i = d → d < k → 0 ≤ x → x < 65521 → 0 ≤ y → y < 65521 →
 P.emenderref02_More.l0 k l x y (i : Int) = some (joinP (U (l.drop i) x y).1 (U (l.drop i) x y).2) := by
 induction d with
 | zero =>
  intro k i x y h1 h2 h3 hx0 hx1 hy0 hy1
  obtain ⟨k, rfl⟩ : ∃ m, k = m + 1 := ⟨k - 1, by omega⟩
  obtain rfl : i = l.length := by omega
  rw [P.emenderref02_More.l0, if_neg (by omega), List.drop_length]
  simp only [U, joinP]
  congr 1; omega
 | succ d ih =>
  intro k i x y h1 h2 h3 hx0 hx1 hy0 hy1
  obtain ⟨k, rfl⟩ : ∃ m, k = m + 1 := ⟨k - 1, by omega⟩
  have hlt : i < l.length := by omega
  obtain ⟨c0, c1⟩ := areBytes_get hB hlt
  have hr : rd l (i : Int) = l.getD i 0 := by simp [rd]
  rw [P.emenderref02_More.l0, if_pos (by omega), if_pos (by omega), hr]
  have hw : wrap64 ((i : Int) + 1) = ((i + 1 : Nat) : Int) := by unfold wrap64; omega
  rw [hw, ih k (i + 1) _ _ (by omega) (by omega) (by omega) (by omega) (by omega) (by omega) (by omega), List.drop_eq_getElem_cons hlt, U, getD_lt hlt]
  rw [getD_lt hlt] at c0 c1
  have e1 : Eqp (((x + l[i] % 4294967296) % 4294967296) % 65521) (x + l[i]) := by unfold Eqp; omega
  have e2 : Eqp (((y + ((x + l[i] % 4294967296) % 4294967296) % 65521) % 4294967296) % 65521) (y + (x + l[i])) := by unfold Eqp; omega
  have := U_eqp (l.drop (i + 1)) _ _ _ _ e1 e2
  exact congrArg some (joinP_eqp this.1 this.2)
theorem ref_more (k : Nat) (s : Int) (l : List Int) (hB : areBytesN l = true) (hl : l.length ≤ 140737488351232) (hk : l.length < k) (h0 : 0 ≤ s) (h1 : s < 4294967296) : P.emenderref02_More.f k s l = some (moreF s l) := by
 unfold P.emenderref02_More.f
 have eA : Int.tmod (Int.tmod s 65536) 65521 = partA s := by
  unfold partA; rw [Int.tmod_eq_emod_of_nonneg h0, Int.tmod_eq_emod_of_nonneg (by omega)]
 have eB : ((Int.tdiv s 65536) % 4294967296) % 65521 = partB s := by
  unfold partB; rw [Int.tdiv_eq_ediv_of_nonneg h0]; omega
 rw [eA, eB]
 have := ref_run l hB hl l.length k 0 (partA s) (partB s) (by omega) (by omega) hk (by unfold partA; omega) (by unfold partA; omega) (by unfold partB; omega) (by unfold partB; omega)
 rw [List.drop_zero] at this
 rw [moreF_eq]; exact this
attribute [local go_sem] max2_int min2_int max_two min_two max_three min_three max_four min_four
set_option maxHeartbeats 8000000 in
set_option maxRecDepth 100000 in
theorem rmore_free (k : Nat) (a0 : Int) (A1 : Option Addr) (c1 : Nat) (l1 : List Int) (r : Int) (w : World) (hr1 : Kd.C (Kd.int .u8) w A1 l1.length l1) (h : P.emenderref02_More.f k a0 l1 = some r) :
 Calls Try.prog 166 #[.int .u32 a0, .slice A1 l1.length c1] w fun e w' => e = .returned (.int .u32 r) ∧ Drawn0 w w' := by
 have HR1 := Aside0.mk hr1
 clear hr1
 have H : (P.emenderref02_More.l0 k l1 (Int.tmod (Int.tmod a0 65536) 65521) (((Int.tdiv a0 65536) % 4294967296) % 65521) 0) = some r := h
 clear h
 have H' := Aside0.mk H
 clear H
 go_enter Try.func166, Try.ntmps166
 go_wp2
 go_loopg [5, 6, 7] k (fun kq v5 v6 v7 w' => ∃ (x5_1 : Int) (x6_1 : Int) (x7_1 : Int), v5 = .int .u32 x5_1 ∧ v6 = .int .u32 x6_1 ∧ v7 = .int .i64 x7_1 ∧ Aside0 (P.emenderref02_More.l0 kq l1 x5_1 x6_1 x7_1 = some r) ∧ Aside0 (kq ≤ k) ∧ Drawn0 w w')
 case atStart => exact ⟨(Int.tmod (Int.tmod a0 65536) 65521), (((Int.tdiv a0 65536) % 4294967296) % 65521), (0), (by first | rfl | (simp; done) | (simp [*]; done)), (by first | rfl | (simp; done) | (simp [*]; done)), (by first | rfl | (simp; done) | (simp [*]; done)), H', ⟨Nat.le_refl _⟩, by repeat (first | exact Drawn0.refl _ | apply Drawn0.step)⟩
 case round =>
  clear H'
  try clear c1
  try clear p2
  obtain ⟨x5_1, x6_1, x7_1, rfl, rfl, rfl, HA, HK1, ⟨m1, rfl⟩⟩ := hrel
  cases gk with
  | zero => exact absurd HA.out (by simp [P.emenderref02_More.l0])
  | succ k1 =>
   have H := HA.out
   clear HA
   simp only [P.emenderref02_More.l0] at H
   by_cases c3 : x7_1 < (l1.length : Int)
   · rw [if_pos c3] at H
     have c3b0 : decide (x7_1 < (l1.length : Int)) = true := decide_eq_true c3
     clear c3
     by_cases c4 : 0 ≤ x7_1
     · rw [if_pos c4] at H
       have c4b0 : decide (0 ≤ x7_1) = true := decide_eq_true c4
       clear c4
       have H' := Aside0.mk H
       clear H
       have p101 : 0 ≤ (x7_1 : Int) := of_decide_eq_true (by first | (with_reducible assumption) | assumption)
       have q101 : x7_1 < (l1.length : Int) := of_decide_eq_true (by first | (with_reducible assumption) | assumption)
       obtain ⟨ad101, e101, hx101_0⟩ := Kd.at_int HR1.out x7_1 p101 q101
       cases e101
       replace p101 := eq_true p101
       replace q101 := eq_true q101
       go_wp2
       go_roundg k1
       case measure => have := HK1.out; omega
       case rel => exact ⟨(((x5_1 + ((rd l1 x7_1) % 4294967296)) % 4294967296) % 65521), (((x6_1 + (((x5_1 + ((rd l1 x7_1) % 4294967296)) % 4294967296) % 65521)) % 4294967296) % 65521), (wrap64 (x7_1 + 1)), (by first | rfl | (simp; done) | (simp [*]; done)), (by first | rfl | (simp; done) | (simp [*]; done)), (by first | rfl | (simp; done) | (simp [*]; done)), H', ⟨by have := HK1.out; omega⟩, by repeat (first | exact Drawn0.refl _ | apply Drawn0.step)⟩
     · rw [if_neg c4] at H
       exact absurd H (by simp)
   · rw [if_neg c3] at H
     have c3b0 : decide (x7_1 < (l1.length : Int)) = false := decide_eq_false c3
     clear c3
     obtain rfl := Option.some.inj H
     go_wp2
     go_ret
     exact ⟨by first | rfl | (simp; done) | (simp [*]; done), by repeat (first | exact Drawn0.refl _ | apply Drawn0.step)⟩
theorem rof_is (A : Option Addr) (c : Nat) (l : List Int) (w : World) (hr : Kd.C (Kd.int .u8) w A l.length l) (hB : areBytesN l = true) (hl : l.length ≤ 140737488351232) :
 Calls Try.prog 154 #[.slice A l.length c] w fun e w' => e = .returned (.int .u32 (sumF l)) ∧ Drawn0 w w' := by
 have h : P.emenderref02_More.f (l.length + 1) 1 l = some (sumF l) := ref_more (l.length + 1) 1 l hB hl (Nat.lt_succ_self _) (by omega) (by omega)
 have H := Lib.hid (rmore_free (l.length + 1) 1 A c l (sumF l) w hr h)
 clear h hr
 go_enter Try.func154, Try.ntmps154
 go_wp2_with (go_at_call 166; refine H.out.mono ?_; rintro e w1 ⟨rfl, hd⟩; have HD := Lib.hid hd; clear hd)
 go_ret
 exact ⟨rfl, HD.out⟩
end Go.Proofs.Ytmbnjgnmblgjoaa.Man
end
