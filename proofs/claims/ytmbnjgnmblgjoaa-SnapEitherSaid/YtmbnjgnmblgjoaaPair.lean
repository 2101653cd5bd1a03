/- Two disks, the program's and the reference's, side by side: what an act on the one leaves of the other. Rows of rows that are read. -/
import Derived.Test.YtmbnjgnmblgjoaaRef17
import Derived.Test.YtmbnjgnmblgjoaaWTab
import Derived.Test.YtmbnjgnmblgjoaaWN
namespace Go.Proofs.Ytmbnjgnmblgjoaa.Man
open Go.RowKit Go.Proofs.YtmbnjgnmblgjoaaW.PrintWords Go.Proofs.YtmbnjgnmblgjoaaW.PrintLast
set_option linter.unusedVariables false
set_option linter.unusedSimpArgs false
set_option maxRecDepth 100000

/-- Two rows that share no block. -/
def Apart (v u : Value) : Prop := ∀ b, v.ownBlock = some b → u.ownBlock ≠ some b
theorem Apart.symm {v u : Value} (h : Apart v u) : Apart u v := fun b hu hv => h b hv hu
theorem Apart.nil (u : Value) : Apart (.slice none 0 0) u := fun b h => by cases h
theorem DStep.apart {w w1 : World} {B base : Nat} {v v' u : Value} {ys : List Int} (st : DStep w w1 B v v') (h : Apart v u) (hu : DRow w base u ys) : Apart v' u := fun b hv hub => by
  rcases st.row with e | ⟨c, e, hc⟩
  · rw [e] at hv; exact h b hv hub
  · rw [e] at hv
    cases hv
    have := (hu.block hub).2.1
    omega
theorem RefS.ref {w w1 : World} {base B B' : Nat} {v v' u : Value} {ys xs : List Int} {s m s' m' : Int} {base' : Nat} (h : RefS w base B' u ys s m) (k : DiskS w base' B v xs s' m') (st : DStep w w1 B v v') (hne : B' ≠ B) (ha : Apart v u) : RefS w1 base B' u ys s m :=
  { h with
    cells := h.cells.move (st.block _ h.cells.lt hne (h.cells.apart k.row))
    row := h.row.move fun b hb => st.block _ (h.row.block hb).2.1 (fun e => k.cells.apart h.row (by rw [hb, e])) (fun e => ha b e.symm hb) }
theorem DiskS.ref {w w1 : World} {base B B' : Nat} {v u u' : Value} {ys xs : List Int} {s m s' m' : Int} {base' : Nat} (h : DiskS w base B v xs s m) (k : RefS w base' B' u ys s' m') (st : DStep w w1 B' u u') (hne : B ≠ B') (ha : Apart v u) : DiskS w1 base B v xs s m :=
  { h with
    cells := h.cells.move (st.block _ h.cells.lt hne (h.cells.apart k.row))
    row := h.row.move fun b hb => st.block _ (h.row.block hb).2.1 (fun e => k.cells.apart h.row (by rw [hb, e])) (fun e => ha b hb e.symm) }
theorem RefS.other {w w1 : World} {base B B' : Nat} {v u u' : Value} {ys xs : List Int} {s m s' m' : Int} {base' : Nat} (h : RefS w base B v xs s m) (k : RefS w base' B' u ys s' m') (st : DStep w w1 B' u u') (hne : B ≠ B') (ha : Apart v u) : RefS w1 base B v xs s m :=
  { h with
    cells := h.cells.move (st.block _ h.cells.lt hne (h.cells.apart k.row))
    row := h.row.move fun b hb => st.block _ (h.row.block hb).2.1 (fun e => k.cells.apart h.row (by rw [hb, e])) (fun e => ha b hb e.symm) }
theorem DStep.drewN (w : World) (B : Nat) (v : Value) (n : Nat) : DStep w (w.drewN n) B v v := ⟨rfl, rfl, rfl, Nat.le_refl _, fun _ _ _ _ => rfl, .inl rfl⟩

/-- The program's disk and the reference's, alike. -/
structure Two (w : World) (base B B' : Nat) (v u : Value) (xs : List Int) (s m : Int) : Prop where
  d : DiskS w base B v xs s m
  r : RefS w base B' u xs s m
  ne : B ≠ B'
  ap : Apart v u
theorem Two.below {w w1 : World} {base B B' n : Nat} {v u : Value} {xs : List Int} {s m : Int} (h : Two w base B B' v u xs s m) (hb : Below n w w1) (hn : w.heap.size ≤ n) : Two w1 base B B' v u xs s m :=
  ⟨h.d.below hb hn, h.r.below hb hn, h.ne, h.ap⟩
/-- Both have acted, the program's first. -/
theorem Two.acted {w w1 w2 : World} {base B B' : Nat} {v u v' u' : Value} {xs xs' : List Int} {s m s' m' : Int} (h : Two w base B B' v u xs s m) (hd : DiskS w1 base B v' xs' s' m') (st : DStep w w1 B v v')
    (hr : RefS w2 base B' u' xs' s' m') (st2 : DStep w1 w2 B' u u') : Two w2 base B B' v' u' xs' s' m' ∧ Below base w w2 := by
  have r1 := h.r.ref h.d st h.ne.symm h.ap
  have a1 := st.apart h.ap h.r.row
  exact ⟨⟨hd.ref r1 st2 h.ne a1, hr, h.ne, (st2.apart a1.symm hd.row).symm⟩, (st.below h.d).trans (st2.belowR r1)⟩
/-- .. the reference's first. -/
theorem Two.acted' {w w1 w2 : World} {base B B' : Nat} {v u v' u' : Value} {xs xs' : List Int} {s m s' m' : Int} (h : Two w base B B' v u xs s m) (hr : RefS w1 base B' u' xs' s' m') (st : DStep w w1 B' u u')
    (hd : DiskS w2 base B v' xs' s' m') (st2 : DStep w1 w2 B v v') : Two w2 base B B' v' u' xs' s' m' ∧ Below base w w2 := by
  have r1 := h.d.ref h.r st h.ne h.ap
  have a1 := st.apart h.ap.symm h.d.row
  exact ⟨⟨hd, hr.ref r1 st2 h.ne.symm a1.symm, h.ne, st2.apart a1.symm hr.row⟩, (st.belowR h.r).trans (st2.below r1)⟩

/-- A row of rows of bytes, read at a place. -/
theorem at_rows {w : World} {A : Option Addr} {n : Nat} {ps : List (List Int)} (h : Kd.C (Kd.slice 5 (Kd.int .u8)) w A n ps) (i : Nat) (hi : i < n) :
    ∃ ad Ap cp, A = some ad ∧ w.cell? (ad.add i) = some (.slice Ap (ps.getD i []).length cp) ∧ (ps.getD i []).length ≤ cp ∧ Kd.C (Kd.int .u8) w Ap (ps.getD i []).length (ps.getD i []) := by
  obtain ⟨ad, c, e, hl, hk, hc⟩ := Kd.C_get h [] (i : Int) (by omega) (by omega)
  rw [Int.toNat_natCast] at hk hc
  obtain ⟨Ap, cp, rfl, hcp, hr⟩ := hk
  exact ⟨ad, Ap, cp, e, by simpa [Kd.slice] using hc 0 _ rfl, hcp, hr⟩

/-- append's value, in a region that draws its order. -/
theorem append_value {P : Program} {oi : Oper} {a : Act} {w w1 : World} {s x : Operand} {ts : Array TypeId} {v u v1 : Value} (ho : oi.op = .call { callee := .builtin .append, args := #[s, x], argTypes := ts })
    (hs : a.eval s = v) (hx : a.eval x = u) (hr : (Builtin.append_ ts oi.type #[v, u]).run P w = .ok v1 w1) : (execOp a.eval oi).run P w = .ok (.value v1) w1 := by
  unfold execOp
  simp only [ho, resolve, invoke, builtin, Sem.run_bind, Sem.run_pure, Result.andThen_ok, List.map_toArray, List.map_cons, List.map_nil, hs, hx, hr]

end Go.Proofs.Ytmbnjgnmblgjoaa.Man
