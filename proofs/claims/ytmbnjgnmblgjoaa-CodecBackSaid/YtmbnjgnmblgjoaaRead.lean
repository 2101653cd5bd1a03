/- codec's reader: a number at a place. -/
import Derived.Test.YtmbnjgnmblgjoaaReadMath
import Derived.WalkLawsBesides
namespace Go.Proofs.Ytmbnjgnmblgjoaa.Man
open Go.RowKit Go.Proofs.YtmbnjgnmblgjoaaW.PrintWords Go.Proofs.YtmbnjgnmblgjoaaW.PrintLast Go.Proofs.YtmbnjgnmblgjoaaW.PrintMore
set_option linter.unusedVariables false
set_option linter.unusedSimpArgs false
set_option maxRecDepth 100000

/-- What a reader panics with. -/
abbrev errCh (f : Int) : List PanicEntry := [{ v := .iface 28 (.int .i64 f), recovered := false }]
/-- A place in bytes. -/
def SpotAt (w : World) (P : Nat) (A : Option Addr) (c n p : Nat) : Prop := w.heap[P]? = some (.cells #[.slice A n c, .int .i64 (p : Int)] 194 (0, 0))
theorem SpotAt.c0 {w : World} {P c n p : Nat} {A : Option Addr} (k : SpotAt w P A c n p) : w.cell? ⟨P, 0, none⟩ = some (.slice A n c) := by simp [World.cell?, show w.heap[P]? = _ from k]
theorem SpotAt.c1 {w : World} {P c n p : Nat} {A : Option Addr} (k : SpotAt w P A c n p) : w.cell? ⟨P, 1, none⟩ = some (.int .i64 (p : Int)) := by simp [World.cell?, show w.heap[P]? = _ from k]
theorem SpotAt.f {w : World} {P c n p : Nat} {A : Option Addr} (k : SpotAt w P A c n p) (i : Nat) : w.frozen? ⟨P, i, none⟩ = false := by simp [World.frozen?, show w.heap[P]? = _ from k]
theorem SpotAt.lt {w : World} {P c n p : Nat} {A : Option Addr} (k : SpotAt w P A c n p) : P < w.heap.size := (Array.getElem?_eq_some_iff.1 k).1
theorem SpotAt.put {w : World} {P c n p : Nat} {A : Option Addr} (k : SpotAt w P A c n p) (q : Nat) : SpotAt (w.setCell ⟨P, 1, none⟩ (.int .i64 (q : Int))) P A c n q := by
  unfold SpotAt World.setCell
  simp [Array.getElem?_modify, show w.heap[P]? = _ from k]
theorem SpotAt.below {w w1 : World} {P c n p m : Nat} {A : Option Addr} (k : SpotAt w P A c n p) (h : Below m w w1) (hm : P < m) : SpotAt w1 P A c n p := (h.block P hm).trans k
theorem SpotAt.drewN {w : World} {P c n p m : Nat} {A : Option Addr} (k : SpotAt w P A c n p) : SpotAt (w.drewN m) P A c n p := (congrArg (fun h => h[P]?) (by simp [World.drewN] : (w.drewN m).heap = w.heap)).trans k
/-- The number at a place, and the place behind it. -/
theorem rnum_getF {top : Int} {b : List Int} {p : Nat} (hp : p ≤ b.length) : rnum top (b.drop p) = if (getF b p).2.2 ≠ 0 then .error (getF b p).2.2 else if top < (getF b p).1 then .error 4 else .ok ((getF b p).1, b.drop (getF b p).2.1.toNat) := by
  have e : getF b p = (((getL (b.drop p) 0 0).1 : Int), (p : Int) + ((getL (b.drop p) 0 0).2.1 : Int), (getL (b.drop p) 0 0).2.2) := by
    unfold getF
    rw [if_neg (by omega), Int.toNat_natCast]
  rw [e]
  unfold rnum
  simp only
  rw [List.drop_drop, show ((p : Int) + ((getL (b.drop p) 0 0).2.1 : Int)).toNat = p + (getL (b.drop p) 0 0).2.1 by omega]
theorem getF_spot {b : List Int} {p : Nat} (hB : areBytesN b = true) (h : (getF b p).2.2 = 0) : ∃ q : Nat, (getF b p).2.1 = (q : Int) ∧ p ≤ q ∧ q ≤ b.length := by
  obtain ⟨_, h1, h2, _⟩ := getF_range b p hB h
  exact ⟨(getF b p).2.1.toNat, by omega, by omega, by omega⟩

theorem fail_no (P : Value) (w : World) : Calls Try.prog 144 #[P, .bool false] w fun e w' => e = .returned (.tuple #[]) ∧ w = w' := by
  go_enter Try.func144, Try.ntmps144
  go_wp2
  go_end0
  exact ⟨rfl, rfl⟩
theorem fail_yes (P : Value) (w : World) : Calls Try.prog 144 #[P, .bool true] w fun e w' => e = .panicked (errCh 4) ∧ w = w' := by
  go_enter Try.func144, Try.ntmps144
  go_wp2
  exact ⟨rfl, rfl, rfl⟩

theorem grown_drewN (w : World) (m : Nat) (r : Option Nat) : w.grownBy (w.drewN m) r := grown_of_below (pw_below_drewN (Below.refl _ _) m) r

set_option maxHeartbeats 4000000 in
theorem snum_ok {w : World} {P c p : Nat} {A : Option Addr} {b : List Int} (k : SpotAt w P A c b.length p) (hC : Kd.C (Kd.int .u8) w A b.length b) (hc : b.length ≤ c) (hB : areBytesN b = true) (hp : p ≤ b.length) (top : Int) (ht0 : 0 ≤ top) (ht1 : top ≤ 2147483647)
    (n : Int) (r : List Int) (h : rnum top (b.drop p) = .ok (n, r)) :
    Calls Try.prog 131 #[.pointer (some ⟨P, 0, none⟩), .int .i64 top] w fun e w' => e = .returned (.int .i64 n) ∧ SpotAt w' P A c b.length (b.length - r.length) ∧ w.grownBy w' (some P) := by
  rw [rnum_getF hp] at h
  split at h
  · cases h
  rename_i h0
  split at h
  · cases h
  rename_i h1
  have h00 : (getF b p).2.2 = 0 := by omega
  obtain ⟨q, hq, hpq, hqb⟩ := getF_spot hB h00
  have hg0 := (getF_range b p hB h00).2.2.2
  have hG : ∀ m, Calls Try.prog 91 #[.slice A b.length c, .int .i64 (p : Int)] (w.drewN m) fun e w' => e = .returned (.tuple #[.int .u64 (getF b p).1, .int .i64 (q : Int), .int .i64 0]) ∧ w' = w.drewN m := fun m => by
    have := get_any A c b p (w.drewN m) (Kd.C_below hC (pw_below_drewN (Below.refl _ _) m)) hc hB
    rw [h00, hq] at this
    exact this.mono fun _ _ ⟨e1, e2⟩ => ⟨e1, e2.symm⟩
  have hnr : n = (getF b p).1 ∧ r = b.drop q := by
    simp only [Except.ok.injEq, Prod.mk.injEq] at h
    rw [hq, Int.toNat_natCast] at h
    exact ⟨h.1.symm, h.2.symm⟩
  obtain ⟨rfl, rfl⟩ := hnr
  have hrl : b.length - (b.drop q).length = q := by rw [List.length_drop]; omega
  rw [hrl]
  generalize (getF b p).1 = n at h1 hg0 hG
  have HG := Lib.hid hG
  have HK := Lib.hid k
  have k0 := k.c0
  have k1 := k.c1
  have kf := k.f 1
  have hU : IntKind.u64.wrap top = top := by rw [IntKind.wrap_u64]; omega
  have ht : decide (top < n) = false := by rw [decide_eq_false_iff_not]; omega
  clear h h0 hq hrl hC hG k h00
  go_enter Try.func131, Try.ntmps131
  go_wp2
  go_quiet ((go_at_call 91; exact Calls.quiet_of_same (HG.out _)))
  go_wp2_with (go_at_call 144; refine (fail_no _ _).mono ?_; rintro e w' ⟨rfl, rfl⟩)
  go_ret
  exact ⟨rfl, SpotAt.put (SpotAt.drewN HK.out) q, grownBy_set _ _ _ _ (grown_drewN _ _ _)⟩

set_option maxHeartbeats 4000000 in
theorem snum_err {w : World} {P c p : Nat} {A : Option Addr} {b : List Int} (k : SpotAt w P A c b.length p) (hC : Kd.C (Kd.int .u8) w A b.length b) (hc : b.length ≤ c) (hB : areBytesN b = true) (hp : p ≤ b.length) (top : Int) (ht0 : 0 ≤ top) (ht1 : top ≤ 2147483647)
    (f : Int) (h : rnum top (b.drop p) = .error f) :
    Calls Try.prog 131 #[.pointer (some ⟨P, 0, none⟩), .int .i64 top] w fun e w' => e = .panicked (errCh f) ∧ w.grownBy w' (some P) := by
  rw [rnum_getF hp] at h
  have hG : ∀ m, Calls Try.prog 91 #[.slice A b.length c, .int .i64 (p : Int)] (w.drewN m) fun e w' => e = .returned (.tuple #[.int .u64 (getF b p).1, .int .i64 (getF b p).2.1, .int .i64 (getF b p).2.2]) ∧ w' = w.drewN m := fun m =>
    (get_any A c b p (w.drewN m) (Kd.C_below hC (pw_below_drewN (Below.refl _ _) m)) hc hB).mono fun _ _ ⟨e1, e2⟩ => ⟨e1, e2.symm⟩
  have k0 := k.c0
  have k1 := k.c1
  have kf := k.f 1
  have hg0 := getF_range b p hB
  clear hC k
  obtain ⟨⟨n, nx, er⟩, hg⟩ : ∃ g, getF b p = g := ⟨_, rfl⟩
  rw [hg] at h hG hg0
  simp only at h hG hg0
  have HG := Lib.hid hG
  clear hG hg
  split at h
  · rename_i h0
    simp only [Except.error.injEq] at h
    subst h
    have hne : (er != 0) = true := by simpa using h0
    clear hg0 h0
    go_enter Try.func131, Try.ntmps131
    go_wp2
    go_quiet ((go_at_call 91; exact Calls.quiet_of_same (HG.out _)))
    go_wp2
    exact ⟨rfl, rfl, grown_drewN _ _ _⟩
  · rename_i h0
    obtain rfl : er = 0 := by omega
    obtain ⟨_, _, _, hn⟩ := hg0 rfl
    split at h
    case isFalse => cases h
    rename_i h1
    simp only [Except.error.injEq] at h
    subst h
    have hU : IntKind.u64.wrap top = top := by rw [IntKind.wrap_u64]; omega
    have ht : decide (top < n) = true := decide_eq_true h1
    clear h0 h1
    go_enter Try.func131, Try.ntmps131
    go_wp2
    go_quiet ((go_at_call 91; exact Calls.quiet_of_same (HG.out _)))
    go_wp2_with (go_at_call 144; refine (fail_yes _ _).mono ?_; rintro e w' ⟨rfl, rfl⟩)
    exact ⟨rfl, rfl, grown_drewN _ _ _⟩
end Go.Proofs.Ytmbnjgnmblgjoaa.Man
