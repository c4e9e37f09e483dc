/- The contracts of package net over this seat's translation: mask, Check, Has, Holds. -/
import Derived.Test.YtcebndkiagbddaaDoorRows
import Derived.Test.YtcebndkiagbddaaDoorFB
import Derived.Test.YtcebndkiagbddaaDoorMath
namespace Go.Proofs.YtcebndkiagbddaaDoor
open Go.RowKit
set_option linter.unusedVariables false
set_option linter.unusedSimpArgs false

theorem mask_any (k : Nat) (n : Int) (w : World) (e : n = (k : Int)) (h1 : k ≤ 32) :
    Calls Tryd.prog 66 #[.int .i64 n] w fun e w' => e = .returned (.int .u32 ((pmask k : Nat) : Int)) ∧ w = w' := by
  subst e
  have e1 : (4294967295 * 2 ^ (32 - k) % 4294967296 : Int) = ((pmask k : Nat) : Int) := by
    rw [← pmask_wrap k, Int.natCast_emod, Int.natCast_mul, Int.natCast_pow]; rfl
  have E := Lib.hid e1
  clear e1
  go_enter Tryd.func66, Tryd.ntmps66
  go_wp2
  go_ret
  exact ⟨ret_int E.out, rfl⟩

/-- How a net stands as a value. -/
abbrev netV (a : Nat) (n : Int) : Value := .agg #[.int .u32 (a : Int), .int .i64 n]

set_option maxHeartbeats 400000 in
theorem check_any (a : Nat) (n : Int) (w : World) (ha : a < 4294967296) :
    Calls Tryd.prog 47 #[netV a n] w fun e w' => e = .returned (.int .i64 (pcheck a n)) ∧ Below w.heap.size w w' := by
  by_cases h0 : n < 0
  · have E := Lib.hid (show pcheck a n = 4 by unfold pcheck; rw [if_pos (.inl h0)])
    go_enter Tryd.func47, Tryd.ntmps47
    go_wp2
    go_ret
    exact ⟨ret_int E.out.symm, (Below.refl _ _).alloc (Nat.le_refl _) _⟩
  · by_cases h1 : 32 < n
    · have E := Lib.hid (show pcheck a n = 4 by unfold pcheck; rw [if_pos (.inr h1)])
      go_enter Tryd.func47, Tryd.ntmps47
      go_wp2
      go_ret
      exact ⟨ret_int E.out.symm, (Below.refl _ _).alloc (Nat.le_refl _) _⟩
    · obtain ⟨k, rfl⟩ := Int.eq_ofNat_of_zero_le (show 0 ≤ n by omega)
      have hk : k ≤ 32 := by omega
      have hm := pmask_lt k
      have hb : bits .andNot .u32 (a : Int) ((pmask k : Nat) : Int) = ((a % 2 ^ (32 - k) : Nat) : Int) := by
        rw [u32_andNot_nat a (pmask k) ha hm, andnot_pmask]
      by_cases hz : a % 2 ^ (32 - k) = 0
      · have E := Lib.hid (show pcheck a (k : Int) = 0 from pcheck_zero.2 ⟨by omega, by omega, hz⟩)
        have hb2 : bits .andNot .u32 (a : Int) ((pmask k : Nat) : Int) = 0 := by rw [hb, hz]; rfl
        clear hb hz
        go_enter Tryd.func47, Tryd.ntmps47
        go_wp2
        go_quiet ((go_at_call 66; exact quiet_same (mask_any _ _ _ rfl hk)))
        go_wp2
        go_ret
        exact ⟨ret_int E.out.symm, below_drewN ((Below.refl _ _).alloc (Nat.le_refl _) _) _⟩
      · have E := Lib.hid (show pcheck a (k : Int) = 3 by unfold pcheck; rw [if_neg (by omega), Int.toNat_natCast, if_pos hz])
        have hb2 : (bits .andNot .u32 (a : Int) ((pmask k : Nat) : Int) != 0) = true := by rw [hb, bne_iff_ne]; exact_mod_cast hz
        clear hb hz
        go_enter Tryd.func47, Tryd.ntmps47
        go_wp2
        go_quiet ((go_at_call 66; exact quiet_same (mask_any _ _ _ rfl hk)))
        go_wp2
        go_ret
        exact ⟨ret_int E.out.symm, below_drewN ((Below.refl _ _).alloc (Nat.le_refl _) _) _⟩

theorem check_is (a : Nat) (n r : Int) (w : World) (ha : a < 4294967296) (h : Hid (pcheck a n = r)) :
    Calls Tryd.prog 47 #[netV a n] w fun e w' => e = .returned (.int .i64 r) ∧ Below w.heap.size w w' :=
  (check_any a n w ha).mono fun _ _ ⟨h1, h2⟩ => ⟨by rw [h1, h.out], h2⟩

end Go.Proofs.YtcebndkiagbddaaDoor
