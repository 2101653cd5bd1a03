/- The acts on a disk, the program's and the reference's, each as one contract for all arguments. -/
import Derived.Test.YtmbnjgnmblgjoaaPair
namespace Go.Proofs.Ytmbnjgnmblgjoaa.Man
open Go.RowKit Go.Proofs.YtmbnjgnmblgjoaaW.PrintWords Go.Proofs.YtmbnjgnmblgjoaaW.PrintLast
set_option linter.unusedVariables false
set_option linter.unusedSimpArgs false
set_option maxRecDepth 100000

def appE (m : Int) (xs ys : List Int) : Int := if (ys.length : Int) ≤ m - (xs.length : Int) then 0 else 12
def appL (m : Int) (xs ys : List Int) : List Int := if (ys.length : Int) ≤ m - (xs.length : Int) then xs ++ ys else xs
def cutE (xs : List Int) (n : Int) : Int := if n < 0 ∨ (xs.length : Int) < n then 1 else 0
def cutL (xs : List Int) (n : Int) : List Int := if n < 0 ∨ (xs.length : Int) < n then xs else xs.take n.toNat
def cutS (xs : List Int) (s n : Int) : Int := if n < 0 ∨ (xs.length : Int) < n then s else n
def crE (k : Int) : Int := if k < 0 then 1 else 0
def crL (xs : List Int) (s k : Int) : List Int := if k < 0 then xs else xs.take (s + min k ((xs.length : Int) - s)).toNat
def crS (xs : List Int) (s k : Int) : Int := if k < 0 then s else s + min k ((xs.length : Int) - s)

theorem append_any {w : World} {base B : Nat} {v : Value} {xs ys : List Int} {s m : Int} (h : DiskS w base B v xs s m) (A : Option Addr) (c : Nat) (HR : Kd.C (Kd.int .u8) w A ys.length ys) : Calls Try.prog 29 #[.pointer (some ⟨B, 0, none⟩), .slice A ys.length c] w fun e w' => e = .returned (.int .i64 (appE m xs ys)) ∧ ∃ v', DiskS w' base B v' (appL m xs ys) s m ∧ DStep w w' B v v' := by
  unfold appE appL
  by_cases hr : (ys.length : Int) ≤ m - (xs.length : Int)
  · rw [if_pos hr, if_pos hr]; exact append_is h A c HR hr
  · rw [if_neg hr, if_neg hr]
    refine (append_full h A ys.length c HR.2.1 hr).mono ?_
    rintro e w' ⟨rfl, n, rfl⟩
    exact ⟨rfl, v, h.below (pw_below_drewN (Below.refl _ _) n) (Nat.le_refl _), DStep.drewN _ _ _ _⟩
theorem refAppend_any {w : World} {base B : Nat} {v : Value} {xs ys : List Int} {s m : Int} (h : RefS w base B v xs s m) (A : Option Addr) (c : Nat) (HR : Kd.C (Kd.int .u8) w A ys.length ys) : Calls Try.prog 30 #[.pointer (some ⟨B, 0, none⟩), .slice A ys.length c] w fun e w' => e = .returned (.int .i64 (appE m xs ys)) ∧ ∃ v', RefS w' base B v' (appL m xs ys) s m ∧ DStep w w' B v v' := by
  unfold appE appL
  by_cases hr : (ys.length : Int) ≤ m - (xs.length : Int)
  · rw [if_pos hr, if_pos hr]; exact refAppend_is h A c HR hr
  · rw [if_neg hr, if_neg hr]
    refine (refAppend_full h A ys.length c HR.2.1 hr).mono ?_
    rintro e w' ⟨rfl, n, rfl⟩
    exact ⟨rfl, v, h.below (pw_below_drewN (Below.refl _ _) n) (Nat.le_refl _), DStep.drewN _ _ _ _⟩
theorem cut_any {w : World} {base B : Nat} {v : Value} {xs : List Int} {s m : Int} (h : DiskS w base B v xs s m) (n : Int) : Calls Try.prog 35 #[.pointer (some ⟨B, 0, none⟩), .int .i64 n] w fun e w' => e = .returned (.int .i64 (cutE xs n)) ∧ ∃ v', DiskS w' base B v' (cutL xs n) (cutS xs s n) m ∧ DStep w w' B v v' := by
  unfold cutE cutL cutS
  by_cases hr : n < 0 ∨ (xs.length : Int) < n
  · rw [if_pos hr, if_pos hr, if_pos hr]
    refine (cut_bad h n hr).mono ?_
    rintro e w' ⟨rfl, rfl⟩
    exact ⟨rfl, v, h, DStep.refl _ _ _⟩
  · rw [if_neg hr, if_neg hr, if_neg hr]
    obtain ⟨k, rfl⟩ : ∃ k : Nat, n = (k : Int) := ⟨n.toNat, by omega⟩
    rw [Int.toNat_natCast]
    exact cut_is h k (by omega)
theorem refCut_any {w : World} {base B : Nat} {v : Value} {xs : List Int} {s m : Int} (h : RefS w base B v xs s m) (n : Int) : Calls Try.prog 36 #[.pointer (some ⟨B, 0, none⟩), .int .i64 n] w fun e w' => e = .returned (.int .i64 (cutE xs n)) ∧ ∃ v', RefS w' base B v' (cutL xs n) (cutS xs s n) m ∧ DStep w w' B v v' := by
  unfold cutE cutL cutS
  by_cases hr : n < 0 ∨ (xs.length : Int) < n
  · rw [if_pos hr, if_pos hr, if_pos hr]
    refine (refCut_bad h n hr).mono ?_
    rintro e w' ⟨rfl, rfl⟩
    exact ⟨rfl, v, h, DStep.refl _ _ _⟩
  · rw [if_neg hr, if_neg hr, if_neg hr]
    obtain ⟨k, rfl⟩ : ∃ k : Nat, n = (k : Int) := ⟨n.toNat, by omega⟩
    rw [Int.toNat_natCast]
    exact refCut_is h k (by omega)
theorem crash_any {w : World} {base B : Nat} {v : Value} {xs : List Int} {s m : Int} (h : DiskS w base B v xs s m) (k : Int) (hk : k ≤ 9223372036854775807) : Calls Try.prog 33 #[.pointer (some ⟨B, 0, none⟩), .int .i64 k] w fun e w' => e = .returned (.int .i64 (crE k)) ∧ ∃ v', DiskS w' base B v' (crL xs s k) (crS xs s k) m ∧ DStep w w' B v v' := by
  unfold crE crL crS
  by_cases hr : k < 0
  · rw [if_pos hr, if_pos hr, if_pos hr]
    refine (crash_bad h k hr).mono ?_
    rintro e w' ⟨rfl, rfl⟩
    exact ⟨rfl, v, h, DStep.refl _ _ _⟩
  · rw [if_neg hr, if_neg hr, if_neg hr]
    have h1 := h.s0
    have h2 := h.s1
    obtain ⟨n, hn⟩ : ∃ n : Nat, s + min k ((xs.length : Int) - s) = (n : Int) := ⟨(s + min k ((xs.length : Int) - s)).toNat, by omega⟩
    rw [hn, Int.toNat_natCast]
    exact crash_is h k (by omega) hk n hn.symm
theorem refCrash_any {w : World} {base B : Nat} {v : Value} {xs : List Int} {s m : Int} (h : RefS w base B v xs s m) (k : Int) (hk : k ≤ 9223372036854775807) : Calls Try.prog 34 #[.pointer (some ⟨B, 0, none⟩), .int .i64 k] w fun e w' => e = .returned (.int .i64 (crE k)) ∧ ∃ v', RefS w' base B v' (crL xs s k) (crS xs s k) m ∧ DStep w w' B v v' := by
  unfold crE crL crS
  by_cases hr : k < 0
  · rw [if_pos hr, if_pos hr, if_pos hr]
    refine (refCrash_bad B k hr).mono ?_
    rintro e w' ⟨rfl, rfl⟩
    exact ⟨rfl, v, h, DStep.refl _ _ _⟩
  · rw [if_neg hr, if_neg hr, if_neg hr]
    have h1 := h.s0
    have h2 := h.s1
    obtain ⟨n, hn⟩ : ∃ n : Nat, s + min k ((xs.length : Int) - s) = (n : Int) := ⟨(s + min k ((xs.length : Int) - s)).toNat, by omega⟩
    rw [hn, Int.toNat_natCast]
    exact refCrash_is h k (by omega) hk n hn.symm

end Go.Proofs.Ytmbnjgnmblgjoaa.Man
