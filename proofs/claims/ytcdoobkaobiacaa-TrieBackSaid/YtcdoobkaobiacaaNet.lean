/- The contracts of package net over this seat's translation: mask, Check, Has, Holds. -/
import Derived.Test.YtcdoobkaobiacaaRows
import Derived.Test.YtcdoobkaobiacaaFB
import Derived.Test.YtcdoobkaobiacaaMath
namespace Go.Proofs.Ytcdoobkaobiacaa
open Go.RowKit
set_option linter.unusedVariables false
set_option linter.unusedSimpArgs false

theorem mask_any (k : Nat) (n : Int) (w : World) (e : n = (k : Int)) (h1 : k ≤ 32) :
    Calls Try.prog 20 #[.int .i64 n] w fun e w' => e = .returned (.int .u32 ((pmask k : Nat) : Int)) ∧ w = w' := by
  subst e
  have e1 : (4294967295 * 2 ^ (32 - k) % 4294967296 : Int) = ((pmask k : Nat) : Int) := by
    rw [← pmask_wrap k, Int.natCast_emod, Int.natCast_mul, Int.natCast_pow]; rfl
  have E := Lib.hid e1
  clear e1
  go_enter Try.func20, Try.ntmps20
  go_wp2
  go_ret
  exact ⟨ret_int E.out, rfl⟩

/-- How a net stands as a value. -/
abbrev netV (a : Nat) (n : Int) : Value := .agg #[.int .u32 (a : Int), .int .i64 n]

set_option maxHeartbeats 400000 in
theorem check_any (a : Nat) (n : Int) (w : World) (ha : a < 4294967296) :
    Calls Try.prog 19 #[netV a n] w fun e w' => e = .returned (.int .i64 (pcheck a n)) ∧ Below w.heap.size w w' := by
  by_cases h0 : n < 0
  · have E := Lib.hid (show pcheck a n = 4 by unfold pcheck; rw [if_pos (.inl h0)])
    go_enter Try.func19, Try.ntmps19
    go_wp2
    go_ret
    exact ⟨ret_int E.out.symm, (Below.refl _ _).alloc (Nat.le_refl _) _⟩
  · by_cases h1 : 32 < n
    · have E := Lib.hid (show pcheck a n = 4 by unfold pcheck; rw [if_pos (.inr h1)])
      go_enter Try.func19, Try.ntmps19
      go_wp2
      go_ret
      exact ⟨ret_int E.out.symm, (Below.refl _ _).alloc (Nat.le_refl _) _⟩
    · obtain ⟨k, rfl⟩ := Int.eq_ofNat_of_zero_le (show 0 ≤ n by omega)
      have hk : k ≤ 32 := by omega
      have hm := pmask_lt k
      have hb : bits .andNot .u32 (a : Int) ((pmask k : Nat) : Int) = ((a % 2 ^ (32 - k) : Nat) : Int) := by
        rw [u32_andNot_nat a (pmask k) ha hm, andnot_pmask]
      by_cases hz : a % 2 ^ (32 - k) = 0
      · have E := Lib.hid (show pcheck a (k : Int) = 0 from pcheck_zero.2 ⟨by omega, by omega, hz⟩)
        have hb2 : bits .andNot .u32 (a : Int) ((pmask k : Nat) : Int) = 0 := by rw [hb, hz]; rfl
        clear hb hz
        go_enter Try.func19, Try.ntmps19
        go_wp2
        go_quiet ((go_at_call 20; exact quiet_same (mask_any _ _ _ rfl hk)))
        go_wp2
        go_ret
        exact ⟨ret_int E.out.symm, below_drewN ((Below.refl _ _).alloc (Nat.le_refl _) _) _⟩
      · have E := Lib.hid (show pcheck a (k : Int) = 3 by unfold pcheck; rw [if_neg (by omega), Int.toNat_natCast, if_pos hz])
        have hb2 : (bits .andNot .u32 (a : Int) ((pmask k : Nat) : Int) != 0) = true := by rw [hb, bne_iff_ne]; exact_mod_cast hz
        clear hb hz
        go_enter Try.func19, Try.ntmps19
        go_wp2
        go_quiet ((go_at_call 20; exact quiet_same (mask_any _ _ _ rfl hk)))
        go_wp2
        go_ret
        exact ⟨ret_int E.out.symm, below_drewN ((Below.refl _ _).alloc (Nat.le_refl _) _) _⟩

theorem check_is (a : Nat) (n r : Int) (w : World) (ha : a < 4294967296) (h : Hid (pcheck a n = r)) :
    Calls Try.prog 19 #[netV a n] w fun e w' => e = .returned (.int .i64 r) ∧ Below w.heap.size w w' :=
  (check_any a n w ha).mono fun _ _ ⟨h1, h2⟩ => ⟨by rw [h1, h.out], h2⟩

set_option maxHeartbeats 400000 in
theorem has_any (a : Nat) (n : Int) (x : Nat) (w : World) (ha : a < 4294967296) (hx : x < 4294967296) :
    Calls Try.prog 8 #[netV a n, .int .u32 (x : Int)] w fun e w' => e = .returned (.bool (phas a n x)) ∧ Below w.heap.size w w' := by
  by_cases hv : pvalid a n
  · obtain ⟨k, rfl⟩ := Int.eq_ofNat_of_zero_le hv.1
    have hk : k ≤ 32 := by have := hv.2.1; omega
    have hq := Lib.hid (pcheck_zero.2 hv)
    have hb : bits .and .u32 (x : Int) ((pmask k : Nat) : Int) = ((pcut x k : Nat) : Int) := by
      rw [u32_and_nat x (pmask k) hx (pmask_lt k), and_pmask x k hx hk]
    have E := Lib.hid (show phas a (k : Int) x = (((pcut x k : Nat) : Int) == (a : Int)) by
      unfold phas; rw [Bool.eq_iff_iff]; simp [hv]; exact Int.ofNat_inj.symm)
    clear hv
    go_enter Try.func8, Try.ntmps8
    go_wp2
    have hw : Below w.heap.size w (w.alloc (Obj.cells #[.int .u32 (a : Int), .int .i64 (k : Int)] 31)) := ((Below.refl w.heap.size w).alloc (by first | exact Nat.le_refl _ | (simp; done) | (simp; omega)) _)
    have hc0_0 : (w.alloc (Obj.cells #[.int .u32 (a : Int), .int .i64 (k : Int)] 31)).cell? ⟨w.heap.size, 0, none⟩ = some (.int .u32 (a : Int)) := cell_at (by first | rfl | simp) 0 rfl
    have hc0_1 : (w.alloc (Obj.cells #[.int .u32 (a : Int), .int .i64 (k : Int)] 31)).cell? ⟨w.heap.size, 1, none⟩ = some (.int .i64 (k : Int)) := cell_at (by first | rfl | simp) 1 rfl
    have hs0 : w.heap.size < (w.alloc (Obj.cells #[.int .u32 (a : Int), .int .i64 (k : Int)] 31)).heap.size := by simp <;> omega
    have hz0 : ∀ o, (w.alloc (Obj.cells #[.int .u32 (a : Int), .int .i64 (k : Int)] 31)).frozen? ⟨w.heap.size, o, none⟩ = false := fun o => froz_at (by first | rfl | simp) o
    generalize (w.alloc (Obj.cells #[.int .u32 (a : Int), .int .i64 (k : Int)] 31)) = w0 at *
    have hB : Below w0.heap.size w0 w0 := Below.refl _ _
    go_region_held3 (fun w' => Below w0.heap.size w0 w' ∧ ∀ b o, b < w0.heap.size → w'.cell? ⟨b, o, none⟩ = w0.cell? ⟨b, o, none⟩) (first | exact under_drew hB | assumption | (go_split_ands; exact under (below_step (by assumption) hb))) (first | (go_at_call 19; (with_reducible refine (check_is _ _ _ _ ha hq).mono ?_); rintro e w1 ⟨rfl, hb⟩) | (go_at_call 20; refine (mask_any _ _ _ rfl hk).mono ?_; rintro e w1 ⟨rfl, rfl⟩))
    go_wp2
    go_ret
    exact ⟨ret_bool E.out.symm, hw.trans ((‹Below _ _ _ ∧ _›).1.mono hw.size)⟩
  · have E := Lib.hid (show phas a n x = false by unfold phas; simp [hv])
    rcases pcheck_bad hv with h | h
    all_goals
     have hq := Lib.hid h
     clear hv h
     go_enter Try.func8, Try.ntmps8
     go_wp2
     have hw : Below w.heap.size w (w.alloc (Obj.cells #[.int .u32 (a : Int), .int .i64 n] 31)) := ((Below.refl w.heap.size w).alloc (by first | exact Nat.le_refl _ | (simp; done) | (simp; omega)) _)
     have hc0_0 : (w.alloc (Obj.cells #[.int .u32 (a : Int), .int .i64 n] 31)).cell? ⟨w.heap.size, 0, none⟩ = some (.int .u32 (a : Int)) := cell_at (by first | rfl | simp) 0 rfl
     have hc0_1 : (w.alloc (Obj.cells #[.int .u32 (a : Int), .int .i64 n] 31)).cell? ⟨w.heap.size, 1, none⟩ = some (.int .i64 n) := cell_at (by first | rfl | simp) 1 rfl
     have hs0 : w.heap.size < (w.alloc (Obj.cells #[.int .u32 (a : Int), .int .i64 n] 31)).heap.size := by simp <;> omega
     have hz0 : ∀ o, (w.alloc (Obj.cells #[.int .u32 (a : Int), .int .i64 n] 31)).frozen? ⟨w.heap.size, o, none⟩ = false := fun o => froz_at (by first | rfl | simp) o
     generalize (w.alloc (Obj.cells #[.int .u32 (a : Int), .int .i64 n] 31)) = w0 at *
     have hB : Below w0.heap.size w0 w0 := Below.refl _ _
     refine wp_region_class (fun w' => Below w0.heap.size w0 w') (by kernel_rfl) (by kernel_rfl) hB.drew ?_
     repeat (first | go_big_quiet_skip | (go_big_quiet_want; apply Exists.intro; refine ⟨fun w1 h1 => ?_, ?_⟩; (focus (have hc := (bcell h1).1; unfold Oper.quietAt; go_simp; first | done | exact rfl | ((go_at_call 19; exact quiet_call h1 (check_is _ _ _ _ ha hq))))); go_big_quiet_on; try simp only [Act.put, List.setIfInBounds_toArray, List.set_cons_zero, List.set_cons_succ]))
     refine wpQuiet_nil ?_
     intro w1 hB
     go_wp2
     go_ret
     exact ⟨ret_bool E.out.symm, hw.trans (hB.mono hw.size)⟩

set_option maxHeartbeats 400000 in
theorem holds_any (a : Nat) (n : Int) (b : Nat) (m : Int) (w : World) (ha : a < 4294967296) (hb' : b < 4294967296) :
    Calls Try.prog 23 #[netV a n, netV b m] w fun e w' => e = .returned (.bool (pholds a n b m)) ∧ Below w.heap.size w w' := by
  by_cases hv : pvalid b m
  · have hq := Lib.hid (pcheck_zero.2 hv)
    by_cases hn : n ≤ m
    · have E := Lib.hid (show pholds a n b m = phas a n b by unfold pholds; simp [hv, hn])
      clear hv
      go_enter Try.func23, Try.ntmps23
      go_wp2_with (fail)
      have hw : Below w.heap.size w ((w.alloc (Obj.cells #[.int .u32 (a : Int), .int .i64 n] 31)).alloc (Obj.cells #[.int .u32 (b : Int), .int .i64 m] 31)) := ((((Below.refl w.heap.size w).alloc (by first | exact Nat.le_refl _ | (simp; done) | (simp; omega)) _)).alloc (by first | exact Nat.le_refl _ | (simp; done) | (simp; omega)) _)
      have hc0_0 : ((w.alloc (Obj.cells #[.int .u32 (a : Int), .int .i64 n] 31)).alloc (Obj.cells #[.int .u32 (b : Int), .int .i64 m] 31)).cell? ⟨w.heap.size, 0, none⟩ = some (.int .u32 (a : Int)) := cell_up (cell_at (by first | rfl | simp) 0 rfl)
      have hc0_1 : ((w.alloc (Obj.cells #[.int .u32 (a : Int), .int .i64 n] 31)).alloc (Obj.cells #[.int .u32 (b : Int), .int .i64 m] 31)).cell? ⟨w.heap.size, 1, none⟩ = some (.int .i64 n) := cell_up (cell_at (by first | rfl | simp) 1 rfl)
      have hc1_0 : ((w.alloc (Obj.cells #[.int .u32 (a : Int), .int .i64 n] 31)).alloc (Obj.cells #[.int .u32 (b : Int), .int .i64 m] 31)).cell? ⟨w.heap.size + 1, 0, none⟩ = some (.int .u32 (b : Int)) := cell_at (by first | rfl | simp) 0 rfl
      have hc1_1 : ((w.alloc (Obj.cells #[.int .u32 (a : Int), .int .i64 n] 31)).alloc (Obj.cells #[.int .u32 (b : Int), .int .i64 m] 31)).cell? ⟨w.heap.size + 1, 1, none⟩ = some (.int .i64 m) := cell_at (by first | rfl | simp) 1 rfl
      have hs0 : w.heap.size < ((w.alloc (Obj.cells #[.int .u32 (a : Int), .int .i64 n] 31)).alloc (Obj.cells #[.int .u32 (b : Int), .int .i64 m] 31)).heap.size := by simp <;> omega
      have hs1 : w.heap.size + 1 < ((w.alloc (Obj.cells #[.int .u32 (a : Int), .int .i64 n] 31)).alloc (Obj.cells #[.int .u32 (b : Int), .int .i64 m] 31)).heap.size := by simp <;> omega
      have hz0 : ∀ o, ((w.alloc (Obj.cells #[.int .u32 (a : Int), .int .i64 n] 31)).alloc (Obj.cells #[.int .u32 (b : Int), .int .i64 m] 31)).frozen? ⟨w.heap.size, o, none⟩ = false := fun o => froz_up (by first | (simp; done) | (simp; omega)) (froz_at (by first | rfl | simp) o)
      have hz1 : ∀ o, ((w.alloc (Obj.cells #[.int .u32 (a : Int), .int .i64 n] 31)).alloc (Obj.cells #[.int .u32 (b : Int), .int .i64 m] 31)).frozen? ⟨w.heap.size + 1, o, none⟩ = false := fun o => froz_at (by first | rfl | simp) o
      generalize ((w.alloc (Obj.cells #[.int .u32 (a : Int), .int .i64 n] 31)).alloc (Obj.cells #[.int .u32 (b : Int), .int .i64 m] 31)) = w0 at *
      have hB : Below w0.heap.size w0 w0 := Below.refl _ _
      go_wp2_with (first | (go_at_call 19; (with_reducible refine (check_is _ _ _ _ hb' hq).mono ?_); rintro e w1 ⟨rfl, hb⟩; have hB := below_step hB hb; have hc := (bcell hB).1) | (go_at_call 8; (with_reducible refine (has_any _ _ _ _ ha hb').mono ?_); rintro e w1 ⟨rfl, hb⟩; have hB := below_step hB hb; have hc := (bcell hB).1))
      go_ret
      exact ⟨ret_bool E.out.symm, hw.trans (hB.mono hw.size)⟩
    · have E := Lib.hid (show pholds a n b m = false by unfold pholds; simp [hn])
      clear hv
      go_enter Try.func23, Try.ntmps23
      go_wp2_with (fail)
      have hw : Below w.heap.size w ((w.alloc (Obj.cells #[.int .u32 (a : Int), .int .i64 n] 31)).alloc (Obj.cells #[.int .u32 (b : Int), .int .i64 m] 31)) := ((((Below.refl w.heap.size w).alloc (by first | exact Nat.le_refl _ | (simp; done) | (simp; omega)) _)).alloc (by first | exact Nat.le_refl _ | (simp; done) | (simp; omega)) _)
      have hc0_0 : ((w.alloc (Obj.cells #[.int .u32 (a : Int), .int .i64 n] 31)).alloc (Obj.cells #[.int .u32 (b : Int), .int .i64 m] 31)).cell? ⟨w.heap.size, 0, none⟩ = some (.int .u32 (a : Int)) := cell_up (cell_at (by first | rfl | simp) 0 rfl)
      have hc0_1 : ((w.alloc (Obj.cells #[.int .u32 (a : Int), .int .i64 n] 31)).alloc (Obj.cells #[.int .u32 (b : Int), .int .i64 m] 31)).cell? ⟨w.heap.size, 1, none⟩ = some (.int .i64 n) := cell_up (cell_at (by first | rfl | simp) 1 rfl)
      have hc1_0 : ((w.alloc (Obj.cells #[.int .u32 (a : Int), .int .i64 n] 31)).alloc (Obj.cells #[.int .u32 (b : Int), .int .i64 m] 31)).cell? ⟨w.heap.size + 1, 0, none⟩ = some (.int .u32 (b : Int)) := cell_at (by first | rfl | simp) 0 rfl
      have hc1_1 : ((w.alloc (Obj.cells #[.int .u32 (a : Int), .int .i64 n] 31)).alloc (Obj.cells #[.int .u32 (b : Int), .int .i64 m] 31)).cell? ⟨w.heap.size + 1, 1, none⟩ = some (.int .i64 m) := cell_at (by first | rfl | simp) 1 rfl
      have hs0 : w.heap.size < ((w.alloc (Obj.cells #[.int .u32 (a : Int), .int .i64 n] 31)).alloc (Obj.cells #[.int .u32 (b : Int), .int .i64 m] 31)).heap.size := by simp <;> omega
      have hs1 : w.heap.size + 1 < ((w.alloc (Obj.cells #[.int .u32 (a : Int), .int .i64 n] 31)).alloc (Obj.cells #[.int .u32 (b : Int), .int .i64 m] 31)).heap.size := by simp <;> omega
      have hz0 : ∀ o, ((w.alloc (Obj.cells #[.int .u32 (a : Int), .int .i64 n] 31)).alloc (Obj.cells #[.int .u32 (b : Int), .int .i64 m] 31)).frozen? ⟨w.heap.size, o, none⟩ = false := fun o => froz_up (by first | (simp; done) | (simp; omega)) (froz_at (by first | rfl | simp) o)
      have hz1 : ∀ o, ((w.alloc (Obj.cells #[.int .u32 (a : Int), .int .i64 n] 31)).alloc (Obj.cells #[.int .u32 (b : Int), .int .i64 m] 31)).frozen? ⟨w.heap.size + 1, o, none⟩ = false := fun o => froz_at (by first | rfl | simp) o
      generalize ((w.alloc (Obj.cells #[.int .u32 (a : Int), .int .i64 n] 31)).alloc (Obj.cells #[.int .u32 (b : Int), .int .i64 m] 31)) = w0 at *
      have hB : Below w0.heap.size w0 w0 := Below.refl _ _
      go_wp2_with (first | (go_at_call 19; (with_reducible refine (check_is _ _ _ _ hb' hq).mono ?_); rintro e w1 ⟨rfl, hb⟩; have hB := below_step hB hb; have hc := (bcell hB).1))
      go_ret
      exact ⟨ret_bool E.out.symm, hw.trans (hB.mono hw.size)⟩
  · have E := Lib.hid (show pholds a n b m = false by unfold pholds; simp [hv])
    rcases pcheck_bad hv with h | h
    all_goals
     have hq := Lib.hid h
     clear hv h
     go_enter Try.func23, Try.ntmps23
     go_wp2_with (fail)
     have hw : Below w.heap.size w ((w.alloc (Obj.cells #[.int .u32 (a : Int), .int .i64 n] 31)).alloc (Obj.cells #[.int .u32 (b : Int), .int .i64 m] 31)) := ((((Below.refl w.heap.size w).alloc (by first | exact Nat.le_refl _ | (simp; done) | (simp; omega)) _)).alloc (by first | exact Nat.le_refl _ | (simp; done) | (simp; omega)) _)
     have hc0_0 : ((w.alloc (Obj.cells #[.int .u32 (a : Int), .int .i64 n] 31)).alloc (Obj.cells #[.int .u32 (b : Int), .int .i64 m] 31)).cell? ⟨w.heap.size, 0, none⟩ = some (.int .u32 (a : Int)) := cell_up (cell_at (by first | rfl | simp) 0 rfl)
     have hc0_1 : ((w.alloc (Obj.cells #[.int .u32 (a : Int), .int .i64 n] 31)).alloc (Obj.cells #[.int .u32 (b : Int), .int .i64 m] 31)).cell? ⟨w.heap.size, 1, none⟩ = some (.int .i64 n) := cell_up (cell_at (by first | rfl | simp) 1 rfl)
     have hc1_0 : ((w.alloc (Obj.cells #[.int .u32 (a : Int), .int .i64 n] 31)).alloc (Obj.cells #[.int .u32 (b : Int), .int .i64 m] 31)).cell? ⟨w.heap.size + 1, 0, none⟩ = some (.int .u32 (b : Int)) := cell_at (by first | rfl | simp) 0 rfl
     have hc1_1 : ((w.alloc (Obj.cells #[.int .u32 (a : Int), .int .i64 n] 31)).alloc (Obj.cells #[.int .u32 (b : Int), .int .i64 m] 31)).cell? ⟨w.heap.size + 1, 1, none⟩ = some (.int .i64 m) := cell_at (by first | rfl | simp) 1 rfl
     have hs0 : w.heap.size < ((w.alloc (Obj.cells #[.int .u32 (a : Int), .int .i64 n] 31)).alloc (Obj.cells #[.int .u32 (b : Int), .int .i64 m] 31)).heap.size := by simp <;> omega
     have hs1 : w.heap.size + 1 < ((w.alloc (Obj.cells #[.int .u32 (a : Int), .int .i64 n] 31)).alloc (Obj.cells #[.int .u32 (b : Int), .int .i64 m] 31)).heap.size := by simp <;> omega
     have hz0 : ∀ o, ((w.alloc (Obj.cells #[.int .u32 (a : Int), .int .i64 n] 31)).alloc (Obj.cells #[.int .u32 (b : Int), .int .i64 m] 31)).frozen? ⟨w.heap.size, o, none⟩ = false := fun o => froz_up (by first | (simp; done) | (simp; omega)) (froz_at (by first | rfl | simp) o)
     have hz1 : ∀ o, ((w.alloc (Obj.cells #[.int .u32 (a : Int), .int .i64 n] 31)).alloc (Obj.cells #[.int .u32 (b : Int), .int .i64 m] 31)).frozen? ⟨w.heap.size + 1, o, none⟩ = false := fun o => froz_at (by first | rfl | simp) o
     generalize ((w.alloc (Obj.cells #[.int .u32 (a : Int), .int .i64 n] 31)).alloc (Obj.cells #[.int .u32 (b : Int), .int .i64 m] 31)) = w0 at *
     have hB : Below w0.heap.size w0 w0 := Below.refl _ _
     go_wp2_with (first | (go_at_call 19; (with_reducible refine (check_is _ _ _ _ hb' hq).mono ?_); rintro e w1 ⟨rfl, hb⟩; have hB := below_step hB hb; have hc := (bcell hB).1))
     go_ret
     exact ⟨ret_bool E.out.symm, hw.trans (hB.mono hw.size)⟩

theorem has_is (a : Nat) (n : Int) (x : Nat) (r : Bool) (w : World) (ha : a < 4294967296) (hx : x < 4294967296) (h : Hid (phas a n x = r)) :
    Calls Try.prog 8 #[netV a n, .int .u32 (x : Int)] w fun e w' => e = .returned (.bool r) ∧ Below w.heap.size w w' :=
  (has_any a n x w ha hx).mono fun _ _ ⟨h1, h2⟩ => ⟨by rw [h1, h.out], h2⟩
theorem holds_is (a : Nat) (n : Int) (b : Nat) (m : Int) (r : Bool) (w : World) (ha : a < 4294967296) (hb' : b < 4294967296) (h : Hid (pholds a n b m = r)) :
    Calls Try.prog 23 #[netV a n, netV b m] w fun e w' => e = .returned (.bool r) ∧ Below w.heap.size w w' :=
  (holds_any a n b m w ha hb').mono fun _ _ ⟨h1, h2⟩ => ⟨by rw [h1, h.out], h2⟩
end Go.Proofs.Ytcdoobkaobiacaa
