/- The contract of net.Join. -/
import Derived.Test.YtcdoobkaobiacaaNetb
import Derived.Test.YtcdoobkaobiacaaMathJoin
import Derived.Test.YtcdoobkaobiacaaShelf
namespace Go.Proofs.Ytcdoobkaobiacaa
open Go.RowKit
set_option linter.unusedVariables false
set_option linter.unusedSimpArgs false

set_option maxRecDepth 100000 in
set_option maxHeartbeats 1600000 in
theorem join_any (a b n m : Nat) (w : World) (ha : a < 4294967296) (hb' : b < 4294967296) (va : pvalid a n) (vb : pvalid b m) :
    Calls Try.prog 32 #[netV a n, netV b m] w fun e w' => e = .returned (.tuple #[netV (pcut a (pjoin a n b m)) (pjoin a n b m), .int .i64 0]) ∧ Below w.heap.size w w' := by
  have Ha := Lib.hid (pcheck_zero.2 va)
  have Hb := Lib.hid (pcheck_zero.2 vb)
  have hn : n ≤ 32 := by have := va.2.1; omega
  have hm : m ≤ 32 := by have := vb.2.1; omega
  clear va vb
  go_enter Try.func32, Try.ntmps32
  have i0 : ∀ w, (Instr.index 90 (.agg #[.int .u32 (a : Int), .int .i64 (n : Int), .int .u32 (b : Int), .int .i64 (m : Int)]) (.int .i64 0)).run Try.prog w = .ok (netV a n) w := fun _ => by kernel_rfl
  have i1 : ∀ w, (Instr.index 90 (.agg #[.int .u32 (a : Int), .int .i64 (n : Int), .int .u32 (b : Int), .int .i64 (m : Int)]) (.int .i64 1)).run Try.prog w = .ok (netV b m) w := fun _ => by kernel_rfl
  go_wp2_with (fail)
  have hw : Below w.heap.size w (((w.alloc (Obj.cells #[.int .u32 (a : Int), .int .i64 (n : Int)] 31)).alloc (Obj.cells #[.int .u32 (b : Int), .int .i64 (m : Int)] 31)).alloc (Obj.cells #[.int .u32 0, .int .i64 0] 31)) := ((((((Below.refl w.heap.size w).alloc (by first | exact Nat.le_refl _ | (simp; done) | (simp; omega)) _)).alloc (by first | exact Nat.le_refl _ | (simp; done) | (simp; omega)) _)).alloc (by first | exact Nat.le_refl _ | (simp; done) | (simp; omega)) _)
  have hc0_0 : (((w.alloc (Obj.cells #[.int .u32 (a : Int), .int .i64 (n : Int)] 31)).alloc (Obj.cells #[.int .u32 (b : Int), .int .i64 (m : Int)] 31)).alloc (Obj.cells #[.int .u32 0, .int .i64 0] 31)).cell? ⟨w.heap.size, 0, none⟩ = some (.int .u32 (a : Int)) := cell_up (cell_up (cell_at (by first | rfl | simp) 0 rfl))
  have hc0_1 : (((w.alloc (Obj.cells #[.int .u32 (a : Int), .int .i64 (n : Int)] 31)).alloc (Obj.cells #[.int .u32 (b : Int), .int .i64 (m : Int)] 31)).alloc (Obj.cells #[.int .u32 0, .int .i64 0] 31)).cell? ⟨w.heap.size, 1, none⟩ = some (.int .i64 (n : Int)) := cell_up (cell_up (cell_at (by first | rfl | simp) 1 rfl))
  have hc1_0 : (((w.alloc (Obj.cells #[.int .u32 (a : Int), .int .i64 (n : Int)] 31)).alloc (Obj.cells #[.int .u32 (b : Int), .int .i64 (m : Int)] 31)).alloc (Obj.cells #[.int .u32 0, .int .i64 0] 31)).cell? ⟨w.heap.size + 1, 0, none⟩ = some (.int .u32 (b : Int)) := cell_up (cell_at (by first | rfl | simp) 0 rfl)
  have hc1_1 : (((w.alloc (Obj.cells #[.int .u32 (a : Int), .int .i64 (n : Int)] 31)).alloc (Obj.cells #[.int .u32 (b : Int), .int .i64 (m : Int)] 31)).alloc (Obj.cells #[.int .u32 0, .int .i64 0] 31)).cell? ⟨w.heap.size + 1, 1, none⟩ = some (.int .i64 (m : Int)) := cell_up (cell_at (by first | rfl | simp) 1 rfl)
  have hc2_0 : (((w.alloc (Obj.cells #[.int .u32 (a : Int), .int .i64 (n : Int)] 31)).alloc (Obj.cells #[.int .u32 (b : Int), .int .i64 (m : Int)] 31)).alloc (Obj.cells #[.int .u32 0, .int .i64 0] 31)).cell? ⟨w.heap.size + 1 + 1, 0, none⟩ = some (.int .u32 0) := cell_at (by first | rfl | simp) 0 rfl
  have hc2_1 : (((w.alloc (Obj.cells #[.int .u32 (a : Int), .int .i64 (n : Int)] 31)).alloc (Obj.cells #[.int .u32 (b : Int), .int .i64 (m : Int)] 31)).alloc (Obj.cells #[.int .u32 0, .int .i64 0] 31)).cell? ⟨w.heap.size + 1 + 1, 1, none⟩ = some (.int .i64 0) := cell_at (by first | rfl | simp) 1 rfl
  have hs0 : w.heap.size < (((w.alloc (Obj.cells #[.int .u32 (a : Int), .int .i64 (n : Int)] 31)).alloc (Obj.cells #[.int .u32 (b : Int), .int .i64 (m : Int)] 31)).alloc (Obj.cells #[.int .u32 0, .int .i64 0] 31)).heap.size := by simp <;> omega
  have hs1 : w.heap.size + 1 < (((w.alloc (Obj.cells #[.int .u32 (a : Int), .int .i64 (n : Int)] 31)).alloc (Obj.cells #[.int .u32 (b : Int), .int .i64 (m : Int)] 31)).alloc (Obj.cells #[.int .u32 0, .int .i64 0] 31)).heap.size := by simp <;> omega
  have hs2 : w.heap.size + 1 + 1 < (((w.alloc (Obj.cells #[.int .u32 (a : Int), .int .i64 (n : Int)] 31)).alloc (Obj.cells #[.int .u32 (b : Int), .int .i64 (m : Int)] 31)).alloc (Obj.cells #[.int .u32 0, .int .i64 0] 31)).heap.size := by simp <;> omega
  have hz0 : ∀ o, (((w.alloc (Obj.cells #[.int .u32 (a : Int), .int .i64 (n : Int)] 31)).alloc (Obj.cells #[.int .u32 (b : Int), .int .i64 (m : Int)] 31)).alloc (Obj.cells #[.int .u32 0, .int .i64 0] 31)).frozen? ⟨w.heap.size, o, none⟩ = false := fun o => froz_up (by first | (simp; done) | (simp; omega)) (froz_up (by first | (simp; done) | (simp; omega)) (froz_at (by first | rfl | simp) o))
  have hz1 : ∀ o, (((w.alloc (Obj.cells #[.int .u32 (a : Int), .int .i64 (n : Int)] 31)).alloc (Obj.cells #[.int .u32 (b : Int), .int .i64 (m : Int)] 31)).alloc (Obj.cells #[.int .u32 0, .int .i64 0] 31)).frozen? ⟨w.heap.size + 1, o, none⟩ = false := fun o => froz_up (by first | (simp; done) | (simp; omega)) (froz_at (by first | rfl | simp) o)
  have hz2 : ∀ o, (((w.alloc (Obj.cells #[.int .u32 (a : Int), .int .i64 (n : Int)] 31)).alloc (Obj.cells #[.int .u32 (b : Int), .int .i64 (m : Int)] 31)).alloc (Obj.cells #[.int .u32 0, .int .i64 0] 31)).frozen? ⟨w.heap.size + 1 + 1, o, none⟩ = false := fun o => froz_at (by first | rfl | simp) o
  generalize (((w.alloc (Obj.cells #[.int .u32 (a : Int), .int .i64 (n : Int)] 31)).alloc (Obj.cells #[.int .u32 (b : Int), .int .i64 (m : Int)] 31)).alloc (Obj.cells #[.int .u32 0, .int .i64 0] 31)) = w0 at *
  have hB : Below w0.heap.size w0 w0 := Below.refl _ _
  go_loopw [12] (fun i wr => ∃ k : Nat, k ≤ 2 ∧ i = .int .i64 (k : Int) ∧ Below w0.heap.size w0 wr) (fun i _ => 2 - (intOf i).toNat)
  case atStart => exact ⟨0, by omega, rfl, hB⟩
  case round =>
    obtain ⟨k, hk, rfl, hB⟩ := hrel
    by_cases h0 : k = 0
    · subst h0
      go_wp2_with (go_at_call 19; (with_reducible refine (check_is _ _ _ _ ha Ha).mono ?_); rintro e w2 ⟨rfl, hb2⟩)
      exact ⟨⟨1, by omega, rfl, (hB.alloc hB.size _).trans (hb2.mono (hB.alloc hB.size _).size)⟩, by simp [intOf]⟩
    · by_cases h1 : k = 1
      · subst h1
        go_wp2_with (go_at_call 19; (with_reducible refine (check_is _ _ _ _ hb' Hb).mono ?_); rintro e w2 ⟨rfl, hb2⟩)
        exact ⟨⟨2, by omega, rfl, (hB.alloc hB.size _).trans (hb2.mono (hB.alloc hB.size _).size)⟩, by simp [intOf]⟩
      · obtain rfl : k = 2 := by omega
        have hc := (bcell hB).1
        have hx : bits .xor .u32 (a : Int) (b : Int) = ((a ^^^ b : Nat) : Int) := u32_xor_nat a b ha hb'
        have hRB : w.heap.size + 1 + 1 ≤ w0.heap.size := Nat.le_of_lt hs2
        have hxb : a ^^^ b < 4294967296 := Nat.xor_lt_two_pow (n := 32) ha hb'
        have hmin : (if 32 - (Lib.bitLen (a ^^^ b) : Int) < (if m < n then (m : Int) else (n : Int)) then 32 - (Lib.bitLen (a ^^^ b) : Int) else if m < n then (m : Int) else (n : Int)) = (pjoin a n b m : Int) := by
          have := pjoin_int a n b m ha hb'
          split <;> split <;> omega
        go_wp2_with (fail)
        refine wp_region_held_drew (S := (fun w' => Below (w.heap.size + 1 + 1) w0 w' ∧ ∀ b o, b < w.heap.size + 1 + 1 → w'.cell? ⟨b, o, none⟩ = w0.cell? ⟨b, o, none⟩)) (by kernel_rfl) (by exact undr ((hB.mono hRB).drew)) (fun hHeld => ?_)
        (refine H_take (i := 0) rfl (by kernel_rfl) (by kernel_rfl) (by kernel_rfl) (fun _ _ _ _ h => h) hHeld (by rfl) ?_; apply Exists.intro; refine ⟨fun w1 hS1 => ?_, ?_⟩; (focus ((try dsimp only at hS1); go_split_ands; go_simp; first | done | with_reducible rfl | exact rfl)); try simp only [Act.put, List.setIfInBounds_toArray, List.set, List.getElem_toArray, List.getElem_cons_zero, List.getElem_cons_succ])
        (refine H_take (i := 1) rfl (by kernel_rfl) (by kernel_rfl) (by kernel_rfl) (fun _ _ _ _ h => h) hHeld (by rfl) ?_; apply Exists.intro; refine ⟨fun w1 hS1 => ?_, ?_⟩; (focus ((try dsimp only at hS1); go_split_ands; go_simp; first | done | with_reducible rfl | exact rfl)); try simp only [Act.put, List.setIfInBounds_toArray, List.set, List.getElem_toArray, List.getElem_cons_zero, List.getElem_cons_succ])
        (refine H_take (i := 2) rfl (by kernel_rfl) (by kernel_rfl) (by kernel_rfl) (fun _ _ _ _ h => h) hHeld (by rfl) ?_; apply Exists.intro; refine ⟨fun w1 hS1 => ?_, ?_⟩; (focus ((try dsimp only at hS1); go_split_ands; go_simp; first | done | with_reducible rfl | exact rfl)); try simp only [Act.put, List.setIfInBounds_toArray, List.set, List.getElem_toArray, List.getElem_cons_zero, List.getElem_cons_succ])
        (refine H_take (i := 3) rfl (by kernel_rfl) (by kernel_rfl) (by kernel_rfl) (fun _ _ _ _ h => h) hHeld (by rfl) ?_; apply Exists.intro; refine ⟨fun w1 hS1 => ?_, ?_⟩; (focus ((try dsimp only at hS1); go_split_ands; go_simp; first | done | with_reducible rfl | exact rfl)); try simp only [Act.put, List.setIfInBounds_toArray, List.set, List.getElem_toArray, List.getElem_cons_zero, List.getElem_cons_succ])
        (refine H_take (i := 4) rfl (by kernel_rfl) (by kernel_rfl) (by kernel_rfl) (fun _ _ _ _ h => h) hHeld (by rfl) ?_; apply Exists.intro; refine ⟨fun w1 hS1 => ?_, ?_⟩; (focus ((try dsimp only at hS1); go_split_ands; go_simp; first | done | with_reducible rfl | exact rfl)); try simp only [Act.put, List.setIfInBounds_toArray, List.set, List.getElem_toArray, List.getElem_cons_zero, List.getElem_cons_succ])
        (refine H_take (i := 5) rfl (by kernel_rfl) (by kernel_rfl) (by kernel_rfl) (fun _ _ _ _ h => h) hHeld (by rfl) ?_; apply Exists.intro; refine ⟨fun w1 hS1 => ?_, ?_⟩; (focus ((try dsimp only at hS1); go_split_ands; go_simp; first | done | with_reducible rfl | exact rfl)); try simp only [Act.put, List.setIfInBounds_toArray, List.set, List.getElem_toArray, List.getElem_cons_zero, List.getElem_cons_succ])
        (refine H_take (i := 6) rfl (by kernel_rfl) (by kernel_rfl) (by kernel_rfl) (fun _ _ _ _ h => h) hHeld (by rfl) ?_; apply Exists.intro; refine ⟨fun w1 hS1 => ?_, ?_⟩; (focus ((try dsimp only at hS1); go_split_ands; go_simp; first | done | with_reducible rfl | exact rfl)); try simp only [Act.put, List.setIfInBounds_toArray, List.set, List.getElem_toArray, List.getElem_cons_zero, List.getElem_cons_succ])
        (refine H_take (i := 7) rfl (by kernel_rfl) (by kernel_rfl) (by kernel_rfl) (fun _ _ _ _ h => h) hHeld (by rfl) ?_; apply Exists.intro; refine ⟨fun w1 hS1 => ?_, ?_⟩; (focus ((try dsimp only at hS1); go_split_ands; go_simp; first | done | with_reducible rfl | exact rfl)); try simp only [Act.put, List.setIfInBounds_toArray, List.set, List.getElem_toArray, List.getElem_cons_zero, List.getElem_cons_succ])
        (refine H_take (i := 8) rfl (by kernel_rfl) (by kernel_rfl) (by kernel_rfl) (fun _ _ _ _ h => h) hHeld (by rfl) ?_; apply Exists.intro; refine ⟨fun w1 hS1 => ?_, ?_⟩; (focus ((try dsimp only at hS1); go_split_ands; go_simp; first | done | with_reducible rfl | exact rfl)); try simp only [Act.put, List.setIfInBounds_toArray, List.set, List.getElem_toArray, List.getElem_cons_zero, List.getElem_cons_succ])
        (refine H_take (i := 9) rfl (by kernel_rfl) (by kernel_rfl) (by kernel_rfl) (fun _ _ _ _ h => h) hHeld (by rfl) ?_; apply Exists.intro; refine ⟨fun w1 hS1 => ?_, ?_⟩; (focus ((try dsimp only at hS1); go_split_ands; go_simp; first | done | with_reducible rfl | exact rfl)); try simp only [Act.put, List.setIfInBounds_toArray, List.set, List.getElem_toArray, List.getElem_cons_zero, List.getElem_cons_succ])
        (refine H_take (i := 10) rfl (by kernel_rfl) (by kernel_rfl) (by kernel_rfl) (fun _ _ _ _ h => h) hHeld (by rfl) ?_; apply Exists.intro; refine ⟨fun w1 hS1 => ?_, ?_⟩; (focus ((try dsimp only at hS1); go_split_ands; go_simp; first | done | with_reducible rfl | exact rfl)); try simp only [Act.put, List.setIfInBounds_toArray, List.set, List.getElem_toArray, List.getElem_cons_zero, List.getElem_cons_succ])
        refine H_one (i := 11) (by kernel_rfl) rfl (fun K hK => ?_)
        go_simp
        (go_at_call 41; (with_reducible refine (Try.bits_LeadingZeros32 _ _ (by omega) (by omega)).mono ?_); rintro e w1 ⟨rfl, rfl⟩; rw [Int.toNat_natCast])
        refine hK.out _ _ (by (try dsimp only); exact hHeld) (fun hHeld => ?_)
        clear hK K
        try simp only [Act.put, List.setIfInBounds_toArray, List.set, List.getElem_toArray, List.getElem_cons_zero, List.getElem_cons_succ]
        (refine H_take (i := 12) rfl (by kernel_rfl) (by kernel_rfl) (by kernel_rfl) (fun _ _ _ _ h => h) hHeld (by rfl) ?_; apply Exists.intro; refine ⟨fun w1 hS1 => ?_, ?_⟩; (focus ((try dsimp only at hS1); go_split_ands; go_simp; first | done | with_reducible rfl | exact rfl)); try simp only [Act.put, List.setIfInBounds_toArray, List.set, List.getElem_toArray, List.getElem_cons_zero, List.getElem_cons_succ])
        have hpl := pjoin_le a n b m
        refine H_one (i := 13) (by kernel_rfl) rfl (fun K hK => ?_)
        go_simp
        (go_at_call 40; (refine (of_any a (pjoin a n b m) _ _ (by first | rfl | exact hmin) ha (by omega)).mono ?_); rintro e w1 ⟨rfl, hb1⟩)
        refine hK.out _ _ (by (try dsimp only); exact undr (undr_step hRB hHeld.1 hb1)) (fun hHeld => ?_)
        clear hK K
        try simp only [Act.put, List.setIfInBounds_toArray, List.set, List.getElem_toArray, List.getElem_cons_zero, List.getElem_cons_succ]
        (refine H_take (i := 14) rfl (by kernel_rfl) (by kernel_rfl) (by kernel_rfl) (fun _ _ _ _ h => h) hHeld (by rfl) ?_; apply Exists.intro; refine ⟨fun w1 hS1 => ?_, ?_⟩; (focus ((try dsimp only at hS1); go_split_ands; go_simp; first | done | with_reducible rfl | exact rfl)); try simp only [Act.put, List.setIfInBounds_toArray, List.set, List.getElem_toArray, List.getElem_cons_zero, List.getElem_cons_succ])
        (refine H_take (i := 15) rfl (by kernel_rfl) (by kernel_rfl) (by kernel_rfl) (fun _ _ _ _ h => h) hHeld (by rfl) ?_; apply Exists.intro; refine ⟨fun w1 hS1 => ?_, ?_⟩; (focus ((try dsimp only at hS1); go_split_ands; go_simp; first | done | with_reducible rfl | exact rfl)); try simp only [Act.put, List.setIfInBounds_toArray, List.set, List.getElem_toArray, List.getElem_cons_zero, List.getElem_cons_succ])
        have hB1 : Below w0.heap.size w0 w1 := below_step hB (below_undrew hb1)
        have r0 := keeps hB1 hc2_0
        have r1 := keeps hB1 hc2_1
        have z0 := fun o => keepsF hB1 hs2 (hz2 o)
        have hwf := hw.trans (hB1.mono hw.size)
        refine H_one (i := 16) (by kernel_rfl) rfl (fun K hK => ?_)
        go_simp
        skip
        refine hK.out _ _ (by (try dsimp only); exact undr ((hHeld.1.setCell (Nat.le_refl _) _).setCell (Nat.le_refl _) _)) (fun hHeld => ?_)
        clear hK K
        try simp only [Act.put, List.setIfInBounds_toArray, List.set, List.getElem_toArray, List.getElem_cons_zero, List.getElem_cons_succ]
        refine H_one (i := 17) (by kernel_rfl) rfl (fun K hK => ?_)
        go_simp
        skip
        refine hK.out _ _ (by (try dsimp only); exact hHeld) (fun hHeld => ?_)
        clear hK K
        try simp only [Act.put, List.setIfInBounds_toArray, List.set, List.getElem_toArray, List.getElem_cons_zero, List.getElem_cons_succ]
        refine wpAnyH_done (by kernel_rfl) ?_ _
        go_wp2_with (fail)
        refine bodyPost_ret (v := .tuple #[netV (pcut a (pjoin a n b m)) (pjoin a n b m), .int .i64 0]) (by simp [results, Try.results32, go_sem, r0, r1]) rfl ⟨rfl, (hwf.setCell (by simp; omega) _).setCell (by simp; omega) _⟩
end Go.Proofs.Ytcdoobkaobiacaa
