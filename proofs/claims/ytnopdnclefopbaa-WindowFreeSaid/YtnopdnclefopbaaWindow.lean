/- package window: which counters came; the contracts of Check, Has, Take. -/
import Derived.Test.YtnopdnclefopbaaRows
import Derived.Test.YtnopdnclefopbaaKit
import Derived.Test.YtnopdnclefopbaaKitb
import Derived.Test.YtnopdnclefopbaaKitc
namespace Go.Proofs.Ytnopdnclefopbaa
open Go.RowKit
set_option linter.unusedVariables false

abbrev seenV (s : Bool) (l b : Nat) : Value := .agg #[.bool s, .int .i64 (l : Int), .int .u64 (b : Int)]
/-- A state that window.Check lets be. -/
def SeenOk (s : Bool) (l b : Nat) : Prop := if s = true then l ≤ 1099511627776 ∧ b < 18446744073709551616 ∧ b % 2 = 1 ∧ (l < 63 → b < 2 ^ (l + 1)) else l = 0 ∧ b = 0
def vHas (s : Bool) (l b n : Nat) : Bool := s && decide (n ≤ l) && (decide (64 ≤ l - n) || b.testBit (l - n))
def vTake (s : Bool) (l b n : Nat) : Nat × Nat :=
  if s = false then (n, 1) else if n ≤ l then (l, b ||| 2 ^ (l - n)) else (n, b * 2 ^ (min (n - l) 64) % 18446744073709551616 ||| 1)

set_option maxHeartbeats 800000 in
theorem check_none (w : World) :
    Calls Try.prog 37 #[seenV false 0 0] w fun e w' => e = .returned (.int .i64 0) ∧ Below w.heap.size w w' := by
  go_enter Try.func37, Try.ntmps37
  go_wp2
  go_ret
  exact ⟨rfl, (Below.refl _ _).alloc (Nat.le_refl _) _⟩
theorem check_zero (w : World) :
    Calls Try.prog 37 #[.agg #[.bool false, .int .i64 0, .int .u64 0]] w fun e w' => e = .returned (.int .i64 0) ∧ Below w.heap.size w w' := check_none w
set_option maxHeartbeats 800000 in
theorem check_some (l b : Nat) (w : World) (hl : l ≤ 1099511627776) (hb : b < 18446744073709551616) (ho : b % 2 = 1) (hs : l < 63 → b < 2 ^ (l + 1)) :
    Calls Try.prog 37 #[seenV true l b] w fun e w' => e = .returned (.int .i64 0) ∧ Below w.heap.size w w' := by
  have h1 : bits .and .u64 (b : Int) 1 = 1 := by
    have := u64_and_nat b 1 hb (by decide)
    rw [Nat.and_one_is_mod, ho] at this; exact this
  by_cases h63 : l < 63
  · have hz : ((b : Int) / 2 ^ (l + 1) != 0) = false := by
      rw [bne_eq_false_iff_eq]
      have : b / 2 ^ (l + 1) = 0 := Nat.div_eq_of_lt (hs h63)
      exact_mod_cast this
    clear ho hs
    go_enter Try.func37, Try.ntmps37
    go_wp2
    go_ret
    exact ⟨rfl, (Below.refl _ _).alloc (Nat.le_refl _) _⟩
  · clear hs ho
    go_enter Try.func37, Try.ntmps37
    go_wp2
    go_ret
    exact ⟨rfl, (Below.refl _ _).alloc (Nat.le_refl _) _⟩

theorem seen_bit (l b n : Nat) (hb : b < 18446744073709551616) : (bits .and .u64 ((b : Int) / 2 ^ (l - n)) 1 == 1) = b.testBit (l - n) := by
  have e : ((b : Int) / 2 ^ (l - n)) = ((b / 2 ^ (l - n) : Nat) : Int) := by rw [Int.natCast_ediv, Int.natCast_pow]; rfl
  have h : b / 2 ^ (l - n) < 18446744073709551616 := Nat.lt_of_le_of_lt (Nat.div_le_self _ _) hb
  rw [e, show (1 : Int) = ((1 : Nat) : Int) from rfl, u64_and_nat _ 1 h (by decide), Nat.and_one_is_mod, Nat.testBit_eq_decide_div_mod_eq, Bool.eq_iff_iff]
  simp
  omega

set_option maxHeartbeats 800000 in
theorem seenHas_none (n : Nat) (w : World) (hn : n ≤ 1099511627776) :
    Calls Try.prog 35 #[seenV false 0 0, .int .i64 (n : Int)] w fun e w' => e = .returned (.tuple #[.bool false, .int .i64 0]) ∧ Below w.heap.size w w' := by
  go_enter Try.func35, Try.ntmps35
  go_wp2_with (fail)
  have hw : Below w.heap.size w (w.alloc (Obj.cells #[.bool false, .int .i64 0, .int .u64 0] 58)) := ((Below.refl w.heap.size w).alloc (by first | exact Nat.le_refl _ | (simp; done) | (simp; omega)) _)
  have hc0_0 : (w.alloc (Obj.cells #[.bool false, .int .i64 0, .int .u64 0] 58)).cell? ⟨w.heap.size, 0, none⟩ = some (.bool false) := cell_at (by first | rfl | simp) 0 rfl
  have hc0_1 : (w.alloc (Obj.cells #[.bool false, .int .i64 0, .int .u64 0] 58)).cell? ⟨w.heap.size, 1, none⟩ = some (.int .i64 0) := cell_at (by first | rfl | simp) 1 rfl
  have hc0_2 : (w.alloc (Obj.cells #[.bool false, .int .i64 0, .int .u64 0] 58)).cell? ⟨w.heap.size, 2, none⟩ = some (.int .u64 0) := cell_at (by first | rfl | simp) 2 rfl
  have hs0 : w.heap.size < (w.alloc (Obj.cells #[.bool false, .int .i64 0, .int .u64 0] 58)).heap.size := by simp <;> omega
  have hz0 : ∀ o, (w.alloc (Obj.cells #[.bool false, .int .i64 0, .int .u64 0] 58)).frozen? ⟨w.heap.size, o, none⟩ = false := fun o => froz_at (by first | rfl | simp) o
  generalize (w.alloc (Obj.cells #[.bool false, .int .i64 0, .int .u64 0] 58)) = w0 at *
  have hB : Below w0.heap.size w0 w0 := Below.refl _ _
  go_wp2_with ((go_at_call 37; (with_reducible refine (check_zero _).mono ?_); rintro e w1 ⟨rfl, hb⟩; have hB := below_step hB hb; have hc := (bcell hB).1))
  go_ret2
  exact ⟨rfl, hw.trans (hB.mono hw.size)⟩
set_option maxHeartbeats 800000 in
theorem seenHas_new (l b n : Nat) (w : World) (hl : l ≤ 1099511627776) (hb' : b < 18446744073709551616) (ho : b % 2 = 1) (hs : l < 63 → b < 2 ^ (l + 1)) (hn : n ≤ 1099511627776) (h : l < n) :
    Calls Try.prog 35 #[seenV true l b, .int .i64 (n : Int)] w fun e w' => e = .returned (.tuple #[.bool false, .int .i64 0]) ∧ Below w.heap.size w w' := by
  have C := Lib.hid (fun w => check_some l b w hl hb' ho hs)
  clear ho hs
  go_enter Try.func35, Try.ntmps35
  go_wp2_with (fail)
  have hw : Below w.heap.size w (w.alloc (Obj.cells #[.bool true, .int .i64 (l : Int), .int .u64 (b : Int)] 58)) := ((Below.refl w.heap.size w).alloc (by first | exact Nat.le_refl _ | (simp; done) | (simp; omega)) _)
  have hc0_0 : (w.alloc (Obj.cells #[.bool true, .int .i64 (l : Int), .int .u64 (b : Int)] 58)).cell? ⟨w.heap.size, 0, none⟩ = some (.bool true) := cell_at (by first | rfl | simp) 0 rfl
  have hc0_1 : (w.alloc (Obj.cells #[.bool true, .int .i64 (l : Int), .int .u64 (b : Int)] 58)).cell? ⟨w.heap.size, 1, none⟩ = some (.int .i64 (l : Int)) := cell_at (by first | rfl | simp) 1 rfl
  have hc0_2 : (w.alloc (Obj.cells #[.bool true, .int .i64 (l : Int), .int .u64 (b : Int)] 58)).cell? ⟨w.heap.size, 2, none⟩ = some (.int .u64 (b : Int)) := cell_at (by first | rfl | simp) 2 rfl
  have hs0 : w.heap.size < (w.alloc (Obj.cells #[.bool true, .int .i64 (l : Int), .int .u64 (b : Int)] 58)).heap.size := by simp <;> omega
  have hz0 : ∀ o, (w.alloc (Obj.cells #[.bool true, .int .i64 (l : Int), .int .u64 (b : Int)] 58)).frozen? ⟨w.heap.size, o, none⟩ = false := fun o => froz_at (by first | rfl | simp) o
  generalize (w.alloc (Obj.cells #[.bool true, .int .i64 (l : Int), .int .u64 (b : Int)] 58)) = w0 at *
  have hB : Below w0.heap.size w0 w0 := Below.refl _ _
  go_wp2_with ((go_at_call 37; (with_reducible refine (C.out _).mono ?_); rintro e w1 ⟨rfl, hb⟩; have hB := below_step hB hb; have hc := (bcell hB).1))
  go_ret2
  exact ⟨rfl, hw.trans (hB.mono hw.size)⟩
set_option maxHeartbeats 800000 in
theorem seenHas_far (l b n : Nat) (w : World) (hl : l ≤ 1099511627776) (hb' : b < 18446744073709551616) (ho : b % 2 = 1) (hs : l < 63 → b < 2 ^ (l + 1)) (hn : n ≤ 1099511627776) (h : n + 64 ≤ l) :
    Calls Try.prog 35 #[seenV true l b, .int .i64 (n : Int)] w fun e w' => e = .returned (.tuple #[.bool true, .int .i64 0]) ∧ Below w.heap.size w w' := by
  have C := Lib.hid (fun w => check_some l b w hl hb' ho hs)
  clear ho hs
  go_enter Try.func35, Try.ntmps35
  go_wp2_with (fail)
  have hw : Below w.heap.size w (w.alloc (Obj.cells #[.bool true, .int .i64 (l : Int), .int .u64 (b : Int)] 58)) := ((Below.refl w.heap.size w).alloc (by first | exact Nat.le_refl _ | (simp; done) | (simp; omega)) _)
  have hc0_0 : (w.alloc (Obj.cells #[.bool true, .int .i64 (l : Int), .int .u64 (b : Int)] 58)).cell? ⟨w.heap.size, 0, none⟩ = some (.bool true) := cell_at (by first | rfl | simp) 0 rfl
  have hc0_1 : (w.alloc (Obj.cells #[.bool true, .int .i64 (l : Int), .int .u64 (b : Int)] 58)).cell? ⟨w.heap.size, 1, none⟩ = some (.int .i64 (l : Int)) := cell_at (by first | rfl | simp) 1 rfl
  have hc0_2 : (w.alloc (Obj.cells #[.bool true, .int .i64 (l : Int), .int .u64 (b : Int)] 58)).cell? ⟨w.heap.size, 2, none⟩ = some (.int .u64 (b : Int)) := cell_at (by first | rfl | simp) 2 rfl
  have hs0 : w.heap.size < (w.alloc (Obj.cells #[.bool true, .int .i64 (l : Int), .int .u64 (b : Int)] 58)).heap.size := by simp <;> omega
  have hz0 : ∀ o, (w.alloc (Obj.cells #[.bool true, .int .i64 (l : Int), .int .u64 (b : Int)] 58)).frozen? ⟨w.heap.size, o, none⟩ = false := fun o => froz_at (by first | rfl | simp) o
  generalize (w.alloc (Obj.cells #[.bool true, .int .i64 (l : Int), .int .u64 (b : Int)] 58)) = w0 at *
  have hB : Below w0.heap.size w0 w0 := Below.refl _ _
  go_wp2_with ((go_at_call 37; (with_reducible refine (C.out _).mono ?_); rintro e w1 ⟨rfl, hb⟩; have hB := below_step hB hb; have hc := (bcell hB).1))
  go_ret2
  exact ⟨rfl, hw.trans (hB.mono hw.size)⟩
set_option maxHeartbeats 800000 in
theorem seenHas_bit (l b n : Nat) (r : Bool) (w : World) (hl : l ≤ 1099511627776) (hb' : b < 18446744073709551616) (ho : b % 2 = 1) (hs : l < 63 → b < 2 ^ (l + 1)) (hn : n ≤ l) (h : l < n + 64) (hr : b.testBit (l - n) = r) :
    Calls Try.prog 35 #[seenV true l b, .int .i64 (n : Int)] w fun e w' => e = .returned (.tuple #[.bool r, .int .i64 0]) ∧ Below w.heap.size w w' := by
  have C := Lib.hid (fun w => check_some l b w hl hb' ho hs)
  have hbit := seen_bit l b n hb'
  rw [hr] at hbit
  clear ho hs hr
  go_enter Try.func35, Try.ntmps35
  go_wp2_with (fail)
  have hw : Below w.heap.size w (w.alloc (Obj.cells #[.bool true, .int .i64 (l : Int), .int .u64 (b : Int)] 58)) := ((Below.refl w.heap.size w).alloc (by first | exact Nat.le_refl _ | (simp; done) | (simp; omega)) _)
  have hc0_0 : (w.alloc (Obj.cells #[.bool true, .int .i64 (l : Int), .int .u64 (b : Int)] 58)).cell? ⟨w.heap.size, 0, none⟩ = some (.bool true) := cell_at (by first | rfl | simp) 0 rfl
  have hc0_1 : (w.alloc (Obj.cells #[.bool true, .int .i64 (l : Int), .int .u64 (b : Int)] 58)).cell? ⟨w.heap.size, 1, none⟩ = some (.int .i64 (l : Int)) := cell_at (by first | rfl | simp) 1 rfl
  have hc0_2 : (w.alloc (Obj.cells #[.bool true, .int .i64 (l : Int), .int .u64 (b : Int)] 58)).cell? ⟨w.heap.size, 2, none⟩ = some (.int .u64 (b : Int)) := cell_at (by first | rfl | simp) 2 rfl
  have hs0 : w.heap.size < (w.alloc (Obj.cells #[.bool true, .int .i64 (l : Int), .int .u64 (b : Int)] 58)).heap.size := by simp <;> omega
  have hz0 : ∀ o, (w.alloc (Obj.cells #[.bool true, .int .i64 (l : Int), .int .u64 (b : Int)] 58)).frozen? ⟨w.heap.size, o, none⟩ = false := fun o => froz_at (by first | rfl | simp) o
  generalize (w.alloc (Obj.cells #[.bool true, .int .i64 (l : Int), .int .u64 (b : Int)] 58)) = w0 at *
  have hB : Below w0.heap.size w0 w0 := Below.refl _ _
  go_wp2_with ((go_at_call 37; (with_reducible refine (C.out _).mono ?_); rintro e w1 ⟨rfl, hb⟩; have hB := below_step hB hb; have hc := (bcell hB).1))
  go_ret2
  exact ⟨rfl, hw.trans (hB.mono hw.size)⟩
theorem seenHas_any (s : Bool) (l b n : Nat) (r : Bool) (w : World) (h : SeenOk s l b) (hn : n ≤ 1099511627776) (hr : Hid (vHas s l b n = r)) :
    Calls Try.prog 35 #[seenV s l b, .int .i64 (n : Int)] w fun e w' => e = .returned (.tuple #[.bool r, .int .i64 0]) ∧ Below w.heap.size w w' := by
  have hr := hr.out
  subst hr
  unfold SeenOk at h
  cases s with
  | false =>
    obtain ⟨rfl, rfl⟩ : l = 0 ∧ b = 0 := by simpa using h
    exact seenHas_none n w hn
  | true =>
    obtain ⟨h1, h2, h3, h4⟩ : l ≤ 1099511627776 ∧ b < 18446744073709551616 ∧ b % 2 = 1 ∧ (l < 63 → b < 2 ^ (l + 1)) := by simpa using h
    by_cases c1 : l < n
    · have e : vHas true l b n = false := by unfold vHas; simp; omega
      rw [e]; exact seenHas_new l b n w h1 h2 h3 h4 hn c1
    · by_cases c2 : n + 64 ≤ l
      · have e : vHas true l b n = true := by unfold vHas; simp; omega
        rw [e]; exact seenHas_far l b n w h1 h2 h3 h4 hn c2
      · have e : vHas true l b n = b.testBit (l - n) := by
          unfold vHas
          rw [decide_eq_true (by omega : n ≤ l), decide_eq_false (by omega : ¬ 64 ≤ l - n)]; simp
        rw [e]; exact seenHas_bit l b n _ w h1 h2 h3 h4 (by omega) (by omega) rfl
end Go.Proofs.Ytnopdnclefopbaa
