/- window.Take: its contract. -/
import Derived.Test.YtnopdnclefopbaaWindow
namespace Go.Proofs.Ytnopdnclefopbaa
open Go.RowKit
set_option linter.unusedVariables false

set_option maxHeartbeats 800000 in
theorem take_old (s : Bool) (l b n : Nat) (w : World) (h : SeenOk s l b) (hn : n ≤ 1099511627776) (hr : Hid (vHas s l b n = true)) :
    Calls Try.prog 36 #[seenV s l b, .int .i64 (n : Int)] w fun e w' => e = .returned (.tuple #[seenV false 0 0, .int .i64 10]) ∧ Below w.heap.size w w' := by
  have C := Lib.hid (fun w => seenHas_any s l b n true w h hn hr)
  clear h
  go_enter Try.func36, Try.ntmps36
  go_wp2_with (fail)
  have hw : Below w.heap.size w ((w.alloc (Obj.cells #[.bool s, .int .i64 (l : Int), .int .u64 (b : Int)] 58)).alloc (Obj.cells #[.bool false, .int .i64 0, .int .u64 0] 58)) := ((((Below.refl w.heap.size w).alloc (by first | exact Nat.le_refl _ | (simp; done) | (simp; omega)) _)).alloc (by first | exact Nat.le_refl _ | (simp; done) | (simp; omega)) _)
  have hc0_0 : ((w.alloc (Obj.cells #[.bool s, .int .i64 (l : Int), .int .u64 (b : Int)] 58)).alloc (Obj.cells #[.bool false, .int .i64 0, .int .u64 0] 58)).cell? ⟨w.heap.size, 0, none⟩ = some (.bool s) := cell_up (cell_at (by first | rfl | simp) 0 rfl)
  have hc0_1 : ((w.alloc (Obj.cells #[.bool s, .int .i64 (l : Int), .int .u64 (b : Int)] 58)).alloc (Obj.cells #[.bool false, .int .i64 0, .int .u64 0] 58)).cell? ⟨w.heap.size, 1, none⟩ = some (.int .i64 (l : Int)) := cell_up (cell_at (by first | rfl | simp) 1 rfl)
  have hc0_2 : ((w.alloc (Obj.cells #[.bool s, .int .i64 (l : Int), .int .u64 (b : Int)] 58)).alloc (Obj.cells #[.bool false, .int .i64 0, .int .u64 0] 58)).cell? ⟨w.heap.size, 2, none⟩ = some (.int .u64 (b : Int)) := cell_up (cell_at (by first | rfl | simp) 2 rfl)
  have hc1_0 : ((w.alloc (Obj.cells #[.bool s, .int .i64 (l : Int), .int .u64 (b : Int)] 58)).alloc (Obj.cells #[.bool false, .int .i64 0, .int .u64 0] 58)).cell? ⟨w.heap.size + 1, 0, none⟩ = some (.bool false) := cell_at (by first | rfl | simp) 0 rfl
  have hc1_1 : ((w.alloc (Obj.cells #[.bool s, .int .i64 (l : Int), .int .u64 (b : Int)] 58)).alloc (Obj.cells #[.bool false, .int .i64 0, .int .u64 0] 58)).cell? ⟨w.heap.size + 1, 1, none⟩ = some (.int .i64 0) := cell_at (by first | rfl | simp) 1 rfl
  have hc1_2 : ((w.alloc (Obj.cells #[.bool s, .int .i64 (l : Int), .int .u64 (b : Int)] 58)).alloc (Obj.cells #[.bool false, .int .i64 0, .int .u64 0] 58)).cell? ⟨w.heap.size + 1, 2, none⟩ = some (.int .u64 0) := cell_at (by first | rfl | simp) 2 rfl
  have hs0 : w.heap.size < ((w.alloc (Obj.cells #[.bool s, .int .i64 (l : Int), .int .u64 (b : Int)] 58)).alloc (Obj.cells #[.bool false, .int .i64 0, .int .u64 0] 58)).heap.size := by simp <;> omega
  have hs1 : w.heap.size + 1 < ((w.alloc (Obj.cells #[.bool s, .int .i64 (l : Int), .int .u64 (b : Int)] 58)).alloc (Obj.cells #[.bool false, .int .i64 0, .int .u64 0] 58)).heap.size := by simp <;> omega
  have hz0 : ∀ o, ((w.alloc (Obj.cells #[.bool s, .int .i64 (l : Int), .int .u64 (b : Int)] 58)).alloc (Obj.cells #[.bool false, .int .i64 0, .int .u64 0] 58)).frozen? ⟨w.heap.size, o, none⟩ = false := fun o => froz_up (by first | (simp; done) | (simp; omega)) (froz_at (by first | rfl | simp) o)
  have hz1 : ∀ o, ((w.alloc (Obj.cells #[.bool s, .int .i64 (l : Int), .int .u64 (b : Int)] 58)).alloc (Obj.cells #[.bool false, .int .i64 0, .int .u64 0] 58)).frozen? ⟨w.heap.size + 1, o, none⟩ = false := fun o => froz_at (by first | rfl | simp) o
  generalize ((w.alloc (Obj.cells #[.bool s, .int .i64 (l : Int), .int .u64 (b : Int)] 58)).alloc (Obj.cells #[.bool false, .int .i64 0, .int .u64 0] 58)) = w0 at *
  have hB : Below w0.heap.size w0 w0 := Below.refl _ _
  go_wp2_with (go_at_call 35; (with_reducible refine (C.out _).mono ?_); rintro e w1 ⟨rfl, hb⟩; have hB := below_step hB hb; have r0 := keeps hB hc1_0; have r1 := keeps hB hc1_1; have r2 := keeps hB hc1_2; have z1 := fun o => keepsF hB hs1 (hz1 o); have q0 := keeps hB hc0_0; have q1 := keeps hB hc0_1; have q2 := keeps hB hc0_2; have y1 := fun o => keepsF hB hs0 (hz0 o))
  refine bodyPost_ret (v := .tuple #[.agg #[.bool false, .int .i64 0, .int .u64 0], .int .i64 10]) (by simp [results, Try.results36, go_sem, r0, r1, r2]) rfl ⟨rfl, ?_⟩
  exact (((hw.trans (hB.mono hw.size)).setCell (by simp) _).setCell (by simp) _).setCell (by simp) _
theorem seenHas_zero (n : Nat) (w : World) (hn : n ≤ 1099511627776) :
    Calls Try.prog 35 #[.agg #[.bool false, .int .i64 0, .int .u64 0], .int .i64 (n : Int)] w fun e w' => e = .returned (.tuple #[.bool false, .int .i64 0]) ∧ Below w.heap.size w w' := seenHas_none n w hn
set_option maxHeartbeats 800000 in
theorem take_none (n : Nat) (w : World) (hn : n ≤ 1099511627776) :
    Calls Try.prog 36 #[seenV false 0 0, .int .i64 (n : Int)] w fun e w' => e = .returned (.tuple #[seenV true n 1, .int .i64 0]) ∧ Below w.heap.size w w' := by
  have C := Lib.hid (fun w => seenHas_zero n w hn)
  go_enter Try.func36, Try.ntmps36
  go_wp2_with (fail)
  have hw : Below w.heap.size w ((w.alloc (Obj.cells #[.bool false, .int .i64 0, .int .u64 0] 58)).alloc (Obj.cells #[.bool false, .int .i64 0, .int .u64 0] 58)) := ((((Below.refl w.heap.size w).alloc (by first | exact Nat.le_refl _ | (simp; done) | (simp; omega)) _)).alloc (by first | exact Nat.le_refl _ | (simp; done) | (simp; omega)) _)
  have hc0_0 : ((w.alloc (Obj.cells #[.bool false, .int .i64 0, .int .u64 0] 58)).alloc (Obj.cells #[.bool false, .int .i64 0, .int .u64 0] 58)).cell? ⟨w.heap.size, 0, none⟩ = some (.bool false) := cell_up (cell_at (by first | rfl | simp) 0 rfl)
  have hc0_1 : ((w.alloc (Obj.cells #[.bool false, .int .i64 0, .int .u64 0] 58)).alloc (Obj.cells #[.bool false, .int .i64 0, .int .u64 0] 58)).cell? ⟨w.heap.size, 1, none⟩ = some (.int .i64 0) := cell_up (cell_at (by first | rfl | simp) 1 rfl)
  have hc0_2 : ((w.alloc (Obj.cells #[.bool false, .int .i64 0, .int .u64 0] 58)).alloc (Obj.cells #[.bool false, .int .i64 0, .int .u64 0] 58)).cell? ⟨w.heap.size, 2, none⟩ = some (.int .u64 0) := cell_up (cell_at (by first | rfl | simp) 2 rfl)
  have hc1_0 : ((w.alloc (Obj.cells #[.bool false, .int .i64 0, .int .u64 0] 58)).alloc (Obj.cells #[.bool false, .int .i64 0, .int .u64 0] 58)).cell? ⟨w.heap.size + 1, 0, none⟩ = some (.bool false) := cell_at (by first | rfl | simp) 0 rfl
  have hc1_1 : ((w.alloc (Obj.cells #[.bool false, .int .i64 0, .int .u64 0] 58)).alloc (Obj.cells #[.bool false, .int .i64 0, .int .u64 0] 58)).cell? ⟨w.heap.size + 1, 1, none⟩ = some (.int .i64 0) := cell_at (by first | rfl | simp) 1 rfl
  have hc1_2 : ((w.alloc (Obj.cells #[.bool false, .int .i64 0, .int .u64 0] 58)).alloc (Obj.cells #[.bool false, .int .i64 0, .int .u64 0] 58)).cell? ⟨w.heap.size + 1, 2, none⟩ = some (.int .u64 0) := cell_at (by first | rfl | simp) 2 rfl
  have hs0 : w.heap.size < ((w.alloc (Obj.cells #[.bool false, .int .i64 0, .int .u64 0] 58)).alloc (Obj.cells #[.bool false, .int .i64 0, .int .u64 0] 58)).heap.size := by simp <;> omega
  have hs1 : w.heap.size + 1 < ((w.alloc (Obj.cells #[.bool false, .int .i64 0, .int .u64 0] 58)).alloc (Obj.cells #[.bool false, .int .i64 0, .int .u64 0] 58)).heap.size := by simp <;> omega
  have hz0 : ∀ o, ((w.alloc (Obj.cells #[.bool false, .int .i64 0, .int .u64 0] 58)).alloc (Obj.cells #[.bool false, .int .i64 0, .int .u64 0] 58)).frozen? ⟨w.heap.size, o, none⟩ = false := fun o => froz_up (by first | (simp; done) | (simp; omega)) (froz_at (by first | rfl | simp) o)
  have hz1 : ∀ o, ((w.alloc (Obj.cells #[.bool false, .int .i64 0, .int .u64 0] 58)).alloc (Obj.cells #[.bool false, .int .i64 0, .int .u64 0] 58)).frozen? ⟨w.heap.size + 1, o, none⟩ = false := fun o => froz_at (by first | rfl | simp) o
  generalize ((w.alloc (Obj.cells #[.bool false, .int .i64 0, .int .u64 0] 58)).alloc (Obj.cells #[.bool false, .int .i64 0, .int .u64 0] 58)) = w0 at *
  have hB : Below w0.heap.size w0 w0 := Below.refl _ _
  go_wp2_with (go_at_call 35; (with_reducible refine (C.out _).mono ?_); rintro e w1 ⟨rfl, hb⟩; have hB := below_step hB hb; have r0 := keeps hB hc1_0; have r1 := keeps hB hc1_1; have r2 := keeps hB hc1_2; have z1 := fun o => keepsF hB hs1 (hz1 o); have q0 := keeps hB hc0_0; have q1 := keeps hB hc0_1; have q2 := keeps hB hc0_2; have y1 := fun o => keepsF hB hs0 (hz0 o))
  refine bodyPost_ret (v := .tuple #[.agg #[.bool true, .int .i64 (n : Int), .int .u64 1], .int .i64 0]) (by simp [results, Try.results36, go_sem, r0, r1, r2]) rfl ⟨rfl, ?_⟩
  exact (((hw.trans (hB.mono hw.size)).setCell (by simp) _).setCell (by simp) _).setCell (by simp) _
theorem seen_or (b k : Nat) (hb : b < 18446744073709551616) (hk : k < 64) : bits .or .u64 (b : Int) (2 ^ k % 18446744073709551616) = ((b ||| 2 ^ k : Nat) : Int) := by
  have hp : 2 ^ k < 18446744073709551616 := by
    have : 2 ^ k < 2 ^ 64 := Nat.pow_lt_pow_right (by omega) hk
    simpa using this
  have e : (2 ^ k % 18446744073709551616 : Int) = ((2 ^ k : Nat) : Int) := by
    rw [← Nat.mod_eq_of_lt hp, Int.natCast_emod, Int.natCast_pow]; rfl
  rw [e, u64_or_nat _ _ hb hp]
set_option maxHeartbeats 1600000 in
theorem take_in (l b n : Nat) (w : World) (h : SeenOk true l b) (hl : l ≤ 1099511627776) (hb' : b < 18446744073709551616) (hn : n ≤ l) (hk : l < n + 64) (hr : Hid (vHas true l b n = false)) :
    Calls Try.prog 36 #[seenV true l b, .int .i64 (n : Int)] w fun e w' => e = .returned (.tuple #[seenV true l (b ||| 2 ^ (l - n)), .int .i64 0]) ∧ Below w.heap.size w w' := by
  have C := Lib.hid (fun w => seenHas_any true l b n false w h (by omega) hr)
  have hor := seen_or b (l - n) hb' (by omega)
  clear h
  go_enter Try.func36, Try.ntmps36
  go_wp2_with (fail)
  have hw : Below w.heap.size w ((w.alloc (Obj.cells #[.bool true, .int .i64 (l : Int), .int .u64 (b : Int)] 58)).alloc (Obj.cells #[.bool false, .int .i64 0, .int .u64 0] 58)) := ((((Below.refl w.heap.size w).alloc (by first | exact Nat.le_refl _ | (simp; done) | (simp; omega)) _)).alloc (by first | exact Nat.le_refl _ | (simp; done) | (simp; omega)) _)
  have hc0_0 : ((w.alloc (Obj.cells #[.bool true, .int .i64 (l : Int), .int .u64 (b : Int)] 58)).alloc (Obj.cells #[.bool false, .int .i64 0, .int .u64 0] 58)).cell? ⟨w.heap.size, 0, none⟩ = some (.bool true) := cell_up (cell_at (by first | rfl | simp) 0 rfl)
  have hc0_1 : ((w.alloc (Obj.cells #[.bool true, .int .i64 (l : Int), .int .u64 (b : Int)] 58)).alloc (Obj.cells #[.bool false, .int .i64 0, .int .u64 0] 58)).cell? ⟨w.heap.size, 1, none⟩ = some (.int .i64 (l : Int)) := cell_up (cell_at (by first | rfl | simp) 1 rfl)
  have hc0_2 : ((w.alloc (Obj.cells #[.bool true, .int .i64 (l : Int), .int .u64 (b : Int)] 58)).alloc (Obj.cells #[.bool false, .int .i64 0, .int .u64 0] 58)).cell? ⟨w.heap.size, 2, none⟩ = some (.int .u64 (b : Int)) := cell_up (cell_at (by first | rfl | simp) 2 rfl)
  have hc1_0 : ((w.alloc (Obj.cells #[.bool true, .int .i64 (l : Int), .int .u64 (b : Int)] 58)).alloc (Obj.cells #[.bool false, .int .i64 0, .int .u64 0] 58)).cell? ⟨w.heap.size + 1, 0, none⟩ = some (.bool false) := cell_at (by first | rfl | simp) 0 rfl
  have hc1_1 : ((w.alloc (Obj.cells #[.bool true, .int .i64 (l : Int), .int .u64 (b : Int)] 58)).alloc (Obj.cells #[.bool false, .int .i64 0, .int .u64 0] 58)).cell? ⟨w.heap.size + 1, 1, none⟩ = some (.int .i64 0) := cell_at (by first | rfl | simp) 1 rfl
  have hc1_2 : ((w.alloc (Obj.cells #[.bool true, .int .i64 (l : Int), .int .u64 (b : Int)] 58)).alloc (Obj.cells #[.bool false, .int .i64 0, .int .u64 0] 58)).cell? ⟨w.heap.size + 1, 2, none⟩ = some (.int .u64 0) := cell_at (by first | rfl | simp) 2 rfl
  have hs0 : w.heap.size < ((w.alloc (Obj.cells #[.bool true, .int .i64 (l : Int), .int .u64 (b : Int)] 58)).alloc (Obj.cells #[.bool false, .int .i64 0, .int .u64 0] 58)).heap.size := by simp <;> omega
  have hs1 : w.heap.size + 1 < ((w.alloc (Obj.cells #[.bool true, .int .i64 (l : Int), .int .u64 (b : Int)] 58)).alloc (Obj.cells #[.bool false, .int .i64 0, .int .u64 0] 58)).heap.size := by simp <;> omega
  have hz0 : ∀ o, ((w.alloc (Obj.cells #[.bool true, .int .i64 (l : Int), .int .u64 (b : Int)] 58)).alloc (Obj.cells #[.bool false, .int .i64 0, .int .u64 0] 58)).frozen? ⟨w.heap.size, o, none⟩ = false := fun o => froz_up (by first | (simp; done) | (simp; omega)) (froz_at (by first | rfl | simp) o)
  have hz1 : ∀ o, ((w.alloc (Obj.cells #[.bool true, .int .i64 (l : Int), .int .u64 (b : Int)] 58)).alloc (Obj.cells #[.bool false, .int .i64 0, .int .u64 0] 58)).frozen? ⟨w.heap.size + 1, o, none⟩ = false := fun o => froz_at (by first | rfl | simp) o
  generalize ((w.alloc (Obj.cells #[.bool true, .int .i64 (l : Int), .int .u64 (b : Int)] 58)).alloc (Obj.cells #[.bool false, .int .i64 0, .int .u64 0] 58)) = w0 at *
  have hB : Below w0.heap.size w0 w0 := Below.refl _ _
  go_wp2_with (go_at_call 35; (with_reducible refine (C.out _).mono ?_); rintro e w1 ⟨rfl, hb⟩; have hB := below_step hB hb; have r0 := keeps hB hc1_0; have r1 := keeps hB hc1_1; have r2 := keeps hB hc1_2; have z1 := fun o => keepsF hB hs1 (hz1 o); have q0 := keeps hB hc0_0; have q1 := keeps hB hc0_1; have q2 := keeps hB hc0_2; have y1 := fun o => keepsF hB hs0 (hz0 o))
  go_region
  go_wp2
  refine bodyPost_ret (v := .tuple #[.agg #[.bool true, .int .i64 (l : Int), .int .u64 (bits BinOp.or IntKind.u64 (b : Int) (IntKind.u64.wrap (2 ^ (l - n))))], .int .i64 0]) (by simp [results, Try.results36, go_sem, r0, r1, r2]) rfl ⟨?_, ?_⟩
  · rw [IntKind.wrap_u64, hor]
  · exact (((((hw.trans (hB.mono hw.size)).setCell (by simp) _).setCell (by simp) _).setCell (by simp) _).setCell (by simp) _).drew
set_option maxHeartbeats 1600000 in
theorem take_new (l b n : Nat) (w : World) (h : SeenOk true l b) (hl : l ≤ 1099511627776) (hb' : b < 18446744073709551616) (hn : n ≤ 1099511627776) (hk : l < n) (hr : Hid (vHas true l b n = false)) :
    Calls Try.prog 36 #[seenV true l b, .int .i64 (n : Int)] w fun e w' => e = .returned (.tuple #[seenV true n (b * 2 ^ (min (n - l) 64) % 18446744073709551616 ||| 1), .int .i64 0]) ∧ Below w.heap.size w w' := by
  have C := Lib.hid (fun w => seenHas_any true l b n false w h hn hr)
  clear h
  obtain ⟨k, hk1⟩ : ∃ k : Nat, k = min (n - l) 64 := ⟨_, rfl⟩
  have hmn := Lib.hid (show min ((n : Int) - (l : Int)) 64 = (k : Int) by omega)
  have K := Lib.hid hk1.symm
  have hk0 : k ≤ 64 := by omega
  clear hk1
  go_enter Try.func36, Try.ntmps36
  go_wp2_with (fail)
  have hw : Below w.heap.size w ((w.alloc (Obj.cells #[.bool true, .int .i64 (l : Int), .int .u64 (b : Int)] 58)).alloc (Obj.cells #[.bool false, .int .i64 0, .int .u64 0] 58)) := ((((Below.refl w.heap.size w).alloc (by first | exact Nat.le_refl _ | (simp; done) | (simp; omega)) _)).alloc (by first | exact Nat.le_refl _ | (simp; done) | (simp; omega)) _)
  have hc0_0 : ((w.alloc (Obj.cells #[.bool true, .int .i64 (l : Int), .int .u64 (b : Int)] 58)).alloc (Obj.cells #[.bool false, .int .i64 0, .int .u64 0] 58)).cell? ⟨w.heap.size, 0, none⟩ = some (.bool true) := cell_up (cell_at (by first | rfl | simp) 0 rfl)
  have hc0_1 : ((w.alloc (Obj.cells #[.bool true, .int .i64 (l : Int), .int .u64 (b : Int)] 58)).alloc (Obj.cells #[.bool false, .int .i64 0, .int .u64 0] 58)).cell? ⟨w.heap.size, 1, none⟩ = some (.int .i64 (l : Int)) := cell_up (cell_at (by first | rfl | simp) 1 rfl)
  have hc0_2 : ((w.alloc (Obj.cells #[.bool true, .int .i64 (l : Int), .int .u64 (b : Int)] 58)).alloc (Obj.cells #[.bool false, .int .i64 0, .int .u64 0] 58)).cell? ⟨w.heap.size, 2, none⟩ = some (.int .u64 (b : Int)) := cell_up (cell_at (by first | rfl | simp) 2 rfl)
  have hc1_0 : ((w.alloc (Obj.cells #[.bool true, .int .i64 (l : Int), .int .u64 (b : Int)] 58)).alloc (Obj.cells #[.bool false, .int .i64 0, .int .u64 0] 58)).cell? ⟨w.heap.size + 1, 0, none⟩ = some (.bool false) := cell_at (by first | rfl | simp) 0 rfl
  have hc1_1 : ((w.alloc (Obj.cells #[.bool true, .int .i64 (l : Int), .int .u64 (b : Int)] 58)).alloc (Obj.cells #[.bool false, .int .i64 0, .int .u64 0] 58)).cell? ⟨w.heap.size + 1, 1, none⟩ = some (.int .i64 0) := cell_at (by first | rfl | simp) 1 rfl
  have hc1_2 : ((w.alloc (Obj.cells #[.bool true, .int .i64 (l : Int), .int .u64 (b : Int)] 58)).alloc (Obj.cells #[.bool false, .int .i64 0, .int .u64 0] 58)).cell? ⟨w.heap.size + 1, 2, none⟩ = some (.int .u64 0) := cell_at (by first | rfl | simp) 2 rfl
  have hs0 : w.heap.size < ((w.alloc (Obj.cells #[.bool true, .int .i64 (l : Int), .int .u64 (b : Int)] 58)).alloc (Obj.cells #[.bool false, .int .i64 0, .int .u64 0] 58)).heap.size := by simp <;> omega
  have hs1 : w.heap.size + 1 < ((w.alloc (Obj.cells #[.bool true, .int .i64 (l : Int), .int .u64 (b : Int)] 58)).alloc (Obj.cells #[.bool false, .int .i64 0, .int .u64 0] 58)).heap.size := by simp <;> omega
  have hz0 : ∀ o, ((w.alloc (Obj.cells #[.bool true, .int .i64 (l : Int), .int .u64 (b : Int)] 58)).alloc (Obj.cells #[.bool false, .int .i64 0, .int .u64 0] 58)).frozen? ⟨w.heap.size, o, none⟩ = false := fun o => froz_up (by first | (simp; done) | (simp; omega)) (froz_at (by first | rfl | simp) o)
  have hz1 : ∀ o, ((w.alloc (Obj.cells #[.bool true, .int .i64 (l : Int), .int .u64 (b : Int)] 58)).alloc (Obj.cells #[.bool false, .int .i64 0, .int .u64 0] 58)).frozen? ⟨w.heap.size + 1, o, none⟩ = false := fun o => froz_at (by first | rfl | simp) o
  generalize ((w.alloc (Obj.cells #[.bool true, .int .i64 (l : Int), .int .u64 (b : Int)] 58)).alloc (Obj.cells #[.bool false, .int .i64 0, .int .u64 0] 58)) = w0 at *
  have hB : Below w0.heap.size w0 w0 := Below.refl _ _
  go_wp2_with (first | (go_at_call 35; (with_reducible refine (C.out _).mono ?_); rintro e w1 ⟨rfl, hb⟩; have hB := below_step hB hb; have r0 := keeps hB hc1_0; have r1 := keeps hB hc1_1; have r2 := keeps hB hc1_2; have z1 := fun o => keepsF hB hs1 (hz1 o); have q0 := keeps hB hc0_0; have q1 := keeps hB hc0_1; have q2 := keeps hB hc0_2; have y1 := fun o => keepsF hB hs0 (hz0 o)) | (with_reducible refine wpList_min rfl (.tmp 47) 64 rfl ((n : Int) - (l : Int)) (k : Int) rfl hmn.out ?_))
  refine bodyPost_ret (v := .tuple #[.agg #[.bool true, .int .i64 (n : Int), .int .u64 (bits BinOp.or IntKind.u64 (IntKind.u64.wrap ((b : Int) * 2 ^ k)) 1)], .int .i64 0]) (by simp [results, Try.results36, go_sem, r0, r1, r2]) rfl ⟨?_, ?_⟩
  · have e : IntKind.u64.wrap ((b : Int) * 2 ^ k) = ((b * 2 ^ k % 18446744073709551616 : Nat) : Int) := by
      rw [IntKind.wrap_u64, Int.natCast_emod, Int.natCast_mul, Int.natCast_pow]; rfl
    have hl := Nat.mod_lt (b * 2 ^ k) (by decide : 0 < 18446744073709551616)
    rw [K.out, e, show (1 : Int) = ((1 : Nat) : Int) from rfl, u64_or_nat _ 1 hl (by decide)]
  · exact (((hw.trans (hB.mono hw.size)).setCell (by simp) _).setCell (by simp) _).setCell (by simp) _

theorem take_fresh (s : Bool) (l b n : Nat) (w : World) (h : SeenOk s l b) (hn : n ≤ 1099511627776) (hr : Hid (vHas s l b n = false)) :
    Calls Try.prog 36 #[seenV s l b, .int .i64 (n : Int)] w fun e w' => e = .returned (.tuple #[seenV true (vTake s l b n).1 (vTake s l b n).2, .int .i64 0]) ∧ Below w.heap.size w w' := by
  cases s with
  | false =>
    have h' := h
    unfold SeenOk at h'
    obtain ⟨rfl, rfl⟩ : l = 0 ∧ b = 0 := by simpa using h'
    exact take_none n w hn
  | true =>
    have h' := h
    unfold SeenOk at h'
    obtain ⟨h1, h2, _, _⟩ : l ≤ 1099511627776 ∧ b < 18446744073709551616 ∧ b % 2 = 1 ∧ (l < 63 → b < 2 ^ (l + 1)) := by simpa using h'
    have hv := hr.out
    by_cases c1 : n ≤ l
    · have e : vTake true l b n = (l, b ||| 2 ^ (l - n)) := by unfold vTake; rw [if_neg (by simp), if_pos c1]
      rw [e]
      refine take_in l b n w h h1 h2 c1 ?_ hr
      refine Nat.lt_of_not_le fun h64 => ?_
      unfold vHas at hv
      rw [decide_eq_true c1, decide_eq_true (by omega : 64 ≤ l - n)] at hv
      simp at hv
    · have e : vTake true l b n = (n, b * 2 ^ (min (n - l) 64) % 18446744073709551616 ||| 1) := by unfold vTake; rw [if_neg (by simp), if_neg c1]
      rw [e]
      exact take_new l b n w h h1 h2 hn (by omega) hr
end Go.Proofs.Ytnopdnclefopbaa
