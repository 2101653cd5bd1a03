/- The row of bytes that a disk holds: one of its own, whose block may be longer than the row's capacity (behind b[:n:n]). Appends, cuts, moves. -/
import Derived.Test.YtmbnjgnmblgjoaaDisk
namespace Go.Proofs.Ytmbnjgnmblgjoaa.Man
open Go.RowKit Go.Proofs.YtmbnjgnmblgjoaaW.PrintWords Go.Proofs.YtmbnjgnmblgjoaaW.PrintLast
set_option linter.unusedVariables false
set_option linter.unusedSimpArgs false

/-- v is a row of its own, block from base on, that holds the bytes xs. -/
def DRow (w : World) (base : Nat) (v : Value) (xs : List Int) : Prop :=
  (v = .slice none 0 0 ∧ xs = []) ∨ ∃ g cap cur, v = .slice (some ⟨g, 0, none⟩) xs.length cap ∧ base ≤ g ∧ w.heap[g]? = some (.cells cur 5 (0, 0)) ∧ xs.length ≤ cap ∧ cap ≤ cur.size ∧ cap ≤ maxLen ∧ cur.toList.take xs.length = encs (Value.int .u8) xs

theorem DRow.nil (w : World) (base : Nat) : DRow w base (.slice none 0 0) [] := .inl ⟨rfl, rfl⟩
theorem DRow.of_own {w : World} {base : Nat} {v : Value} {xs : List Int} (h : w.ownsRow base 5 1 v xs.length (encs (Value.int .u8) xs)) : DRow w base v xs := by
  rcases h.2 with ⟨rfl, h0⟩ | ⟨g, cap, cur, rfl, h1, h2, h3, h4, h5, h6⟩
  · exact .inl ⟨rfl, List.eq_nil_of_length_eq_zero h0⟩
  · exact .inr ⟨g, cap, cur, rfl, h1, h2, h3, by omega, h4, by rw [Nat.mul_one] at h6; exact h6⟩
theorem DRow.move {w w1 : World} {base : Nat} {v : Value} {xs : List Int} (h : DRow w base v xs) (hm : ∀ k, v.ownBlock = some k → w1.heap[k]? = w.heap[k]?) : DRow w1 base v xs := by
  rcases h with h | ⟨g, cap, cur, rfl, h1, h2, h3⟩
  · exact .inl h
  · exact .inr ⟨g, cap, cur, rfl, h1, (hm g rfl).trans h2, h3⟩
theorem DRow.lower {w : World} {base base' : Nat} {v : Value} {xs : List Int} (h : DRow w base v xs) (hb : base' ≤ base) : DRow w base' v xs := by
  rcases h with h | ⟨g, cap, cur, rfl, h1, h2⟩
  · exact .inl h
  · exact .inr ⟨g, cap, cur, rfl, by omega, h2⟩
theorem DRow.block {w : World} {base : Nat} {v : Value} {xs : List Int} (h : DRow w base v xs) {k : Nat} (hk : v.ownBlock = some k) : base ≤ k ∧ k < w.heap.size ∧ ∃ cur, w.heap[k]? = some (.cells cur 5 (0, 0)) := by
  rcases h with ⟨rfl, _⟩ | ⟨g, cap, cur, rfl, h1, h2, _⟩
  · cases hk
  · obtain rfl : g = k := by simpa [Value.ownBlock] using hk
    exact ⟨h1, (Array.getElem?_eq_some_iff.1 h2).1, cur, h2⟩
theorem DRow.len {w : World} {base : Nat} {v : Value} {xs : List Int} (h : DRow w base v xs) : ∃ A c, v = .slice A xs.length c ∧ xs.length ≤ c := by
  rcases h with ⟨rfl, rfl⟩ | ⟨g, cap, cur, rfl, h1, h2, h3, _⟩
  · exact ⟨none, 0, rfl, Nat.le_refl _⟩
  · exact ⟨_, cap, rfl, h3⟩
theorem DRow.cell {w : World} {base g n cap : Nat} {xs : List Int} (h : DRow w base (.slice (some ⟨g, 0, none⟩) n cap) xs) {j : Nat} {u : Value} (hj : (encs (Value.int .u8) xs)[j]? = some u) : w.cell? ((⟨g, 0, none⟩ : Addr).add j) = some u := by
  rcases h with ⟨h, _⟩ | ⟨g', cap', cur, e, h1, h2, h3, h4, h5, h6⟩
  · cases h
  · cases e
    rw [← h6] at hj
    have hlt : j < xs.length := by
      rcases Nat.lt_or_ge j xs.length with h | h
      · exact h
      · rw [List.getElem?_eq_none (by rw [List.length_take]; omega)] at hj; cases hj
    rw [List.getElem?_take, if_pos hlt] at hj
    rw [Addr.add_lit, Nat.zero_add, cell_of_row w g _ cur _ (0, 0) h2]
    simpa using hj
theorem DRow.C {w : World} {base : Nat} {A : Option Addr} {n c : Nat} {xs : List Int} (h : DRow w base (.slice A n c) xs) : n = xs.length ∧ Kd.C (Kd.int .u8) w A n xs := by
  have h0 := h
  rcases h with ⟨h, rfl⟩ | ⟨g', cap', cur, e, h1, h2, h3, h4, h5, h6⟩
  · cases h
    exact ⟨rfl, Kd.C_of_reads (d := (0 : Int)) (h1 := fun _ => rfl) ⟨rfl, by omega, fun h => absurd h (by decide)⟩⟩
  · cases e
    refine ⟨rfl, Kd.C_of_reads (d := (0 : Int)) (h1 := fun _ => rfl) ⟨rfl, by simp only [maxLen] at h5; omega, fun _ => ⟨_, rfl, fun j hj => ?_⟩⟩⟩
    exact h0.cell (by rw [encs_get (d := (0 : Int)) xs j hj])

set_option maxRecDepth 100000 in
/-- b = append(b, ys...). -/
theorem DRow.append {w : World} {base : Nat} {v : Value} {xs ys : List Int} (h : DRow w base v xs) (ty : TypeId) {A : Option Addr} {m c : Nat} (HR : Kd.C (Kd.int .u8) w A m ys) (hbase : base ≤ w.heap.size) (hl : xs.length + m ≤ 140737488355328) :
    ∃ v1 w1, (Builtin.append_ #[27, 27] ty #[v, .slice A m c]).run Try.prog w = .ok v1 w1 ∧ DRow w1 base v1 (xs ++ ys) ∧ w.grownBy w1 v.ownBlock ∧ (v1.ownBlock = v.ownBlock ∨ ∃ b, v1.ownBlock = some b ∧ w.heap.size ≤ b) := by
  have hR := Kd.reads_of_C (enc := Value.int .u8) (d := (0 : Int)) (h1 := fun _ => rfl) HR
  have hm : ys.length = m := hR.1
  have ht : Try.prog.underlying 27 = some (.slice 5) := by kernel_rfl
  have hinfo : (Try.prog.info? 5).map (fun i => (i.zero, i.size, i.bytes)) = some (some (.int .u8 0), 1, 1) := by kernel_rfl
  obtain ⟨i0, hi, hzz⟩ := Option.map_eq_some_iff.1 hinfo
  simp only [Prod.mk.injEq] at hzz
  obtain ⟨hz0, hz1, hz2⟩ := hzz
  rcases A with _ | ad
  · have h0 : m = 0 := by
      rcases Nat.eq_zero_or_pos m with h0 | h0
      · exact h0
      · obtain ⟨ad, h, _⟩ := hR.2.2 h0
        cases h
    subst h0
    obtain rfl : ys = [] := List.eq_nil_of_length_eq_zero hm
    refine ⟨v, w, ?_, by simpa using h, World.grownBy.refl w _, .inl rfl⟩
    rcases h with ⟨rfl, hn⟩ | ⟨g, cap, cur, rfl, _, _, hnc, _⟩
    · simp [Builtin.append_, run_underlying ht, sizeOf, typeInfo, hi, Builtin.lenOf, Builtin.firstCells]
    · simp [Builtin.append_, run_underlying ht, sizeOf, typeInfo, hi, Builtin.lenOf, Builtin.firstCells, hnc, storeCells]
  · have hcells : ∀ j u, (encs (Value.int .u8) ys)[j]? = some u → w.cell? (ad.add j) = some u := by
      intro j u hu
      have hj : j < ys.length := by
        rcases Nat.lt_or_ge j ys.length with h | h
        · exact h
        · simp [encs, List.getElem?_eq_none h] at hu
      obtain ⟨ad', h', hc⟩ := hR.2.2 (by omega)
      injection h' with h'
      subst h'
      rw [encs_get (d := (0 : Int)) ys j hj] at hu
      rw [← hu]
      exact hc j (by omega)
    have hone : ∀ u ∈ encs (Value.int .u8) ys, u.oneCell' = true := by
      intro u hu; simp only [encs, List.mem_map] at hu; obtain ⟨q, _, rfl⟩ := hu; rfl
    have hnl : (encs (Value.int .u8) ys).length = m * i0.size := by rw [hz1]; simp [encs, hm]
    rcases h with ⟨rfl, rfl⟩ | ⟨g, cap, cur, rfl, h1, h2, h3, h4, h5, h6⟩
    · obtain ⟨v1, w1, hr, q2, q3, _, q5⟩ := run_append_own_at (P := Try.prog) w base 27 ty 5 i0 (.int .u8 0) 1 1 ht hi hz0 hz1 hz2 rfl (by omega) (.slice none 0 0) 0 [] (World.ownsRow_nil w base _ 1) ad m c (encs (Value.int .u8) ys) (by simp [encs, hm]) hcells hone (by simp only [maxLen]; omega) (by simp at hl; omega) hbase
      exact ⟨v1, w1, hr, DRow.of_own (by simpa [encs, hm] using q2), q3, q5.imp id fun e => ⟨_, e, Nat.le_refl _⟩⟩
    · have hold : (⟨g, 0, none⟩ : Addr) = ⟨g, 0, none⟩ := rfl
      by_cases hroom : xs.length + m ≤ cap
      · have hr := run_append_room (P := Try.prog) w 27 ty 5 i0 ht hi g xs.length cap cur h2 ad m c (encs (Value.int .u8) ys) hnl hcells hone hroom (by rw [hz1]; simp [encs, hm]; omega)
        rw [hz1, Nat.mul_one] at hr
        refine ⟨_, _, hr, .inr ⟨g, cap, _, by rw [List.length_append, hm], h1, setRow_heap w g cur _ _ _ h2, by rw [List.length_append, hm]; exact hroom, ?_, h5, ?_⟩, ⟨rfl, rfl, rfl, by simp, fun k _ hk => setRow_other w g k _ (fun e => hk (by simp [Value.ownBlock, e]))⟩, .inl rfl⟩
        · simp only [List.size_toArray, List.length_append, List.length_take, List.length_drop, Array.length_toList]
          omega
        · rw [h6]
          have hlen : (encs (Value.int .u8) xs ++ encs (Value.int .u8) ys).length = (xs ++ ys).length := by simp [encs]
          simp only [encs, List.map_append] at hlen ⊢
          rw [← hlen]
          exact List.take_left
      · have hd : DRow w base (.slice (some ⟨g, 0, none⟩) xs.length cap) xs := .inr ⟨g, cap, cur, rfl, h1, h2, h3, h4, h5, h6⟩
        obtain ⟨v1, w1, hr, q2, q3⟩ := run_append_arg_grows (P := Try.prog) w 27 ty 5 i0 (.int .u8 0) 1 1 ht hi hz0 hz1 hz2 rfl (by omega) ⟨g, 0, none⟩ xs.length cap (encs (Value.int .u8) xs) (by simp [encs]) (fun j u hu => hd.cell hu) ad m c (encs (Value.int .u8) ys) (by simp [encs, hm]) hcells (by omega) (by simp only [maxLen]; omega) (by omega)
        have q4 : DRow w1 w.heap.size v1 (xs ++ ys) := DRow.of_own (by simpa [encs, hm] using q2)
        refine ⟨v1, w1, hr, q4.lower hbase, ⟨q3.os, q3.tape, q3.output, q3.size, fun k hk _ => q3.block k hk (by simp)⟩, ?_⟩
        rcases q4 with ⟨rfl, q⟩ | ⟨b, cap', cur', rfl, q, _⟩
        · have := congrArg List.length q
          rw [List.length_append, hm] at this
          simp at this
          omega
        · exact .inr ⟨b, rfl, q⟩
/-- .. as an operation of the walk. -/
theorem DRow.append_ev {ops : Array Oper} {rest : List Oper} {o : Oper} {a : Act} {Q : Exit → Act → World → Prop} {w : World} {base : Nat} {v : Value} {xs ys : List Int} {A : Option Addr} {m c : Nat}
    (h : DRow w base v xs) (HR : Kd.C (Kd.int .u8) w A m ys) (hgd : o.guard = none) (s x : Operand) (ho : o.op = .call { callee := .builtin .append, args := #[s, x], argTypes := #[27, 27] })
    (hs : a.eval s = v) (hx : a.eval x = .slice A m c) (hbase : base ≤ w.heap.size) (hl : xs.length + m ≤ 140737488355328)
    (k : ∀ v1 w1, DRow w1 base v1 (xs ++ ys) → w.grownBy w1 v.ownBlock → (v1.ownBlock = v.ownBlock ∨ ∃ b, v1.ownBlock = some b ∧ w.heap.size ≤ b) → wpList Try.prog ops Q rest (a.put o.dst v1) w1) : wpList Try.prog ops Q (o :: rest) a w := by
  obtain ⟨v1, w1, hr, q1, q2, q3⟩ := h.append o.type (c := c) HR hbase hl
  refine wpList_plain hgd fun K hK => ?_
  unfold Oper.wp execOp
  simp only [ho, resolve, invoke, builtin, Sem.run_bind, Sem.run_pure, Result.andThen_ok, List.map_toArray, List.map_cons, List.map_nil, hs, hx, hr]
  exact hK _ _ (k v1 w1 q1 q2 q3)

/-! ### A disk's cells and its row, and what an act may turn -/
theorem DiskAt.lt {w : World} {B : Nat} {v : Value} {s m : Int} {made : Bool} (h : DiskAt w B v s m made) : B < w.heap.size := (Array.getElem?_eq_some_iff.1 h).1
theorem DiskAt.f {w : World} {B : Nat} {v : Value} {s m : Int} {made : Bool} (h : DiskAt w B v s m made) (k : Nat) : w.frozen? ⟨B, k, none⟩ = false := by simp [World.frozen?, show w.heap[B]? = _ from h]
theorem DiskAt.put0 {w : World} {B : Nat} {v : Value} {s m : Int} {made : Bool} (h : DiskAt w B v s m made) (v' : Value) : DiskAt (w.setCell ⟨B, 0, none⟩ v') B v' s m made := by
  unfold DiskAt World.setCell
  simp [Array.getElem?_modify, show w.heap[B]? = _ from h]
theorem DiskAt.put1 {w : World} {B : Nat} {v : Value} {s m : Int} {made : Bool} (h : DiskAt w B v s m made) (s' : Int) : DiskAt (w.setCell ⟨B, 1, none⟩ (.int .i64 s')) B v s' m made := by
  unfold DiskAt World.setCell
  simp [Array.getElem?_modify, show w.heap[B]? = _ from h]
theorem DiskAt.move {w w1 : World} {B : Nat} {v : Value} {s m : Int} {made : Bool} (h : DiskAt w B v s m made) (hm : w1.heap[B]? = w.heap[B]?) : DiskAt w1 B v s m made := hm.trans h
theorem DiskAt.apart {w : World} {B base : Nat} {v u : Value} {s m : Int} {made : Bool} {xs : List Int} (h : DiskAt w B v s m made) (hr : DRow w base u xs) : some B ≠ u.ownBlock := by
  intro e
  obtain ⟨_, _, cur, hc⟩ := hr.block e.symm
  rw [show w.heap[B]? = _ from h] at hc
  cases hc

/-- A disk in block B holds the bytes xs, s of them sure, of at most m. -/
structure DiskS (w : World) (base B : Nat) (v : Value) (xs : List Int) (s m : Int) : Prop where
  cells : DiskAt w B v s m true
  row : DRow w base v xs
  at_ : base ≤ B
  m0 : 0 ≤ m
  m1 : m ≤ 262144
  len : (xs.length : Int) ≤ m
  s0 : 0 ≤ s
  s1 : s ≤ (xs.length : Int)
/-- What an act on the disk may turn: its block, its row, what is new. -/
structure DStep (w w' : World) (B : Nat) (v v' : Value) : Prop where
  os : w'.os = w.os
  tape : w'.tape = w.tape
  output : w'.output = w.output
  size : w.heap.size ≤ w'.heap.size
  block : ∀ k, k < w.heap.size → k ≠ B → some k ≠ v.ownBlock → w'.heap[k]? = w.heap[k]?
  row : v'.ownBlock = v.ownBlock ∨ ∃ b, v'.ownBlock = some b ∧ w.heap.size ≤ b
theorem DStep.below {w w' : World} {base B : Nat} {v v' : Value} {xs : List Int} {s m : Int} (h : DStep w w' B v v') (hd : DiskS w base B v xs s m) : Below base w w' :=
  ⟨h.os, h.tape, h.output, h.size, fun k hk => h.block k (by have := hd.cells.lt; have := hd.at_; omega) (by have := hd.at_; omega) (fun e => by have := (hd.row.block e.symm).1; omega)⟩
theorem DiskS.below {w w1 : World} {base B n : Nat} {v : Value} {xs : List Int} {s m : Int} (h : DiskS w base B v xs s m) (hb : Below n w w1) (hn : w.heap.size ≤ n) : DiskS w1 base B v xs s m :=
  { h with cells := h.cells.move (hb.block _ (by have := h.cells.lt; omega)), row := h.row.move fun k hk => hb.block _ (by have := (h.row.block hk).2.1; omega) }
/-- Another disk, apart from this one. -/
theorem DiskS.other {w w1 : World} {base B base' B' : Nat} {v v' u : Value} {xs ys : List Int} {s m s' m' : Int} (h : DiskS w base B v xs s m) (k : DiskS w base' B' u ys s' m') (st : DStep w w1 B' u v') (hne : B ≠ B') (hrow : ∀ b, v.ownBlock = some b → u.ownBlock ≠ some b) : DiskS w1 base B v xs s m :=
  { h with
    cells := h.cells.move (st.block _ h.cells.lt hne (h.cells.apart k.row))
    row := h.row.move fun b hb => st.block _ (h.row.block hb).2.1 (fun e => k.cells.apart h.row (by rw [hb, e])) (fun e => hrow b hb e.symm) }

end Go.Proofs.Ytmbnjgnmblgjoaa.Man
