/- The contracts of the statements' own helpers: picked, Nets, Net. -/
import Derived.Test.YtcebndkiagbddaaDoorRows
import Derived.Test.YtcebndkiagbddaaDoorFB
import Derived.Test.YtcebndkiagbddaaDoorMath
import Derived.Test.YtcebndkiagbddaaDoorNets
import Derived.Test.YtcebndkiagbddaaDoorNet
namespace Go.Proofs.YtcebndkiagbddaaDoor
open Go.RowKit
set_option linter.unusedVariables false
set_option linter.unusedSimpArgs false

/-- picked: a number from 0 to many - 1. -/
def ppick (n m : Int) : Int := (if n < 0 then -(n + 1) else n) % m
theorem ppick_pos {n m : Int} (h : 0 < m) : 0 ≤ ppick n m ∧ ppick n m < m := by
  unfold ppick; exact ⟨Int.emod_nonneg _ (by omega), Int.emod_lt_of_pos _ h⟩

set_option maxHeartbeats 400000 in
theorem picked_any (n m : Int) (w : World) (h0 : -9223372036854775808 ≤ n) (h1 : n ≤ 9223372036854775807) (hm : 0 < m) (hm1 : m ≤ 9223372036854775807) :
    Calls Tryd.prog 10 #[.int .i64 n, .int .i64 m] w fun e w' => e = .returned (.int .i64 (ppick n m)) ∧ w = w' := by
  by_cases hn : n < 0
  · have E := Lib.hid (show ppick n m = -((n + 1).tmod m) by unfold ppick; rw [if_pos hn, ← Int.neg_tmod, Int.tmod_eq_emod_of_nonneg (by omega)])
    go_enter Tryd.func10, Tryd.ntmps10
    go_wp2
    go_ret
    exact ⟨ret_int E.out.symm, rfl⟩
  · have E := Lib.hid (show ppick n m = n % m by unfold ppick; rw [if_neg hn])
    go_enter Tryd.func10, Tryd.ntmps10
    go_wp2
    go_ret
    exact ⟨ret_int E.out.symm, rfl⟩

theorem picked_is (n m : Int) (r : Int) (w : World) (H : Hid (ppick n m = r)) (h0 : -9223372036854775808 ≤ n) (h1 : n ≤ 9223372036854775807) (hm : 0 < m) (hm1 : m ≤ 9223372036854775807) :
    Calls Tryd.prog 10 #[.int .i64 n, .int .i64 m] w fun e w' => e = .returned (.int .i64 r) ∧ w = w' :=
  (picked_any n m w h0 h1 hm hm1).mono fun _ _ ⟨a, b⟩ => ⟨by rw [a, H.out], b⟩

theorem nets_at (k : Nat) (w : World) (hk : k < 11) :
    Calls Tryd.prog 46 #[] w fun e w' => e = .returned (.slice (some ⟨w.heap.size, 0, none⟩) 11 11) ∧ Below w.heap.size w w' ∧ w.heap.size < w'.heap.size ∧
      w'.cell? ⟨w.heap.size, k * 2, none⟩ = some (.int .u32 (netA k : Int)) ∧ w'.cell? ⟨w.heap.size, k * 2 + 1, none⟩ = some (.int .i64 (netB k : Int)) :=
  (nets_any w).mono fun _ _ ⟨h1, h2⟩ => by
    subst h2
    refine ⟨h1, (Below.refl _ _).alloc (Nat.le_refl _) _, by simp, ?_, ?_⟩
    · rw [World.cell?_alloc_new, Nat.mul_comm]; exact (netCells_at k hk).1
    · rw [World.cell?_alloc_new, Nat.mul_comm]; exact (netCells_at k hk).2

/-- How a raw thing stands as a value. -/
abbrev rawV (kind a b : Int) (s : ByteArray) : Value := .agg #[.int .i64 kind, .int .i64 a, .int .i64 b, .string s]
abbrev IntOk (n : Int) : Prop := -9223372036854775808 ≤ n ∧ n ≤ 9223372036854775807
def pnetA (kind a b : Int) : Nat := if 0 < ppick kind 4 then netA (ppick a 11).toNat else pcut (a % 4294967296).toNat (ppick b 33).toNat
def pnetB (kind a b : Int) : Nat := if 0 < ppick kind 4 then netB (ppick a 11).toNat else (ppick b 33).toNat

set_option maxHeartbeats 800000 in
theorem net_one (kind a b : Int) (s : ByteArray) (w : World) (h1 : IntOk kind) (h2 : IntOk a) (hp : 0 < ppick kind 4) :
    Calls Tryd.prog 24 #[rawV kind a b s] w fun e w' => e = .returned (netV (pnetA kind a b) (pnetB kind a b)) ∧ Below w.heap.size w w' := by
  obtain ⟨q, hq⟩ := Int.eq_ofNat_of_zero_le (ppick_pos (n := a) (m := 11) (by omega)).1
  have hq1 : q < 11 := by have := (ppick_pos (n := a) (m := 11) (by omega)).2; omega
  have EA := Lib.hid (show pnetA kind a b = netA q by unfold pnetA; rw [if_pos hp, hq, Int.toNat_natCast])
  have EB := Lib.hid (show pnetB kind a b = netB q by unfold pnetB; rw [if_pos hp, hq, Int.toNat_natCast])
  have Q := Lib.hid hq
  clear hq
  go_enter Tryd.func24, Tryd.ntmps24
  go_wp2_with (fail)
  have hw : Below w.heap.size w ((w.alloc (Obj.cells #[.int .i64 kind, .int .i64 a, .int .i64 b, .string s] 75)).alloc (Obj.cells #[.int .u32 0, .int .i64 0] 51)) := ((((Below.refl w.heap.size w).alloc (by first | exact Nat.le_refl _ | (simp; done) | (simp; omega)) _)).alloc (by first | exact Nat.le_refl _ | (simp; done) | (simp; omega)) _)
  have hc0_0 : ((w.alloc (Obj.cells #[.int .i64 kind, .int .i64 a, .int .i64 b, .string s] 75)).alloc (Obj.cells #[.int .u32 0, .int .i64 0] 51)).cell? ⟨w.heap.size, 0, none⟩ = some (.int .i64 kind) := cell_up (cell_at (by first | rfl | simp) 0 rfl)
  have hc0_1 : ((w.alloc (Obj.cells #[.int .i64 kind, .int .i64 a, .int .i64 b, .string s] 75)).alloc (Obj.cells #[.int .u32 0, .int .i64 0] 51)).cell? ⟨w.heap.size, 1, none⟩ = some (.int .i64 a) := cell_up (cell_at (by first | rfl | simp) 1 rfl)
  have hc0_2 : ((w.alloc (Obj.cells #[.int .i64 kind, .int .i64 a, .int .i64 b, .string s] 75)).alloc (Obj.cells #[.int .u32 0, .int .i64 0] 51)).cell? ⟨w.heap.size, 2, none⟩ = some (.int .i64 b) := cell_up (cell_at (by first | rfl | simp) 2 rfl)
  have hc0_3 : ((w.alloc (Obj.cells #[.int .i64 kind, .int .i64 a, .int .i64 b, .string s] 75)).alloc (Obj.cells #[.int .u32 0, .int .i64 0] 51)).cell? ⟨w.heap.size, 3, none⟩ = some (.string s) := cell_up (cell_at (by first | rfl | simp) 3 rfl)
  have hc1_0 : ((w.alloc (Obj.cells #[.int .i64 kind, .int .i64 a, .int .i64 b, .string s] 75)).alloc (Obj.cells #[.int .u32 0, .int .i64 0] 51)).cell? ⟨w.heap.size + 1, 0, none⟩ = some (.int .u32 0) := cell_at (by first | rfl | simp) 0 rfl
  have hc1_1 : ((w.alloc (Obj.cells #[.int .i64 kind, .int .i64 a, .int .i64 b, .string s] 75)).alloc (Obj.cells #[.int .u32 0, .int .i64 0] 51)).cell? ⟨w.heap.size + 1, 1, none⟩ = some (.int .i64 0) := cell_at (by first | rfl | simp) 1 rfl
  have hs0 : w.heap.size < ((w.alloc (Obj.cells #[.int .i64 kind, .int .i64 a, .int .i64 b, .string s] 75)).alloc (Obj.cells #[.int .u32 0, .int .i64 0] 51)).heap.size := by simp <;> omega
  have hs1 : w.heap.size + 1 < ((w.alloc (Obj.cells #[.int .i64 kind, .int .i64 a, .int .i64 b, .string s] 75)).alloc (Obj.cells #[.int .u32 0, .int .i64 0] 51)).heap.size := by simp <;> omega
  have hz0 : ∀ o, ((w.alloc (Obj.cells #[.int .i64 kind, .int .i64 a, .int .i64 b, .string s] 75)).alloc (Obj.cells #[.int .u32 0, .int .i64 0] 51)).frozen? ⟨w.heap.size, o, none⟩ = false := fun o => froz_up (by first | (simp; done) | (simp; omega)) (froz_at (by first | rfl | simp) o)
  have hz1 : ∀ o, ((w.alloc (Obj.cells #[.int .i64 kind, .int .i64 a, .int .i64 b, .string s] 75)).alloc (Obj.cells #[.int .u32 0, .int .i64 0] 51)).frozen? ⟨w.heap.size + 1, o, none⟩ = false := fun o => froz_at (by first | rfl | simp) o
  generalize ((w.alloc (Obj.cells #[.int .i64 kind, .int .i64 a, .int .i64 b, .string s] 75)).alloc (Obj.cells #[.int .u32 0, .int .i64 0] 51)) = w0 at *
  have hB : Below w0.heap.size w0 w0 := Below.refl _ _
  go_wp2_with (go_at_call 10; refine (picked_any _ _ _ h1.1 h1.2 (by decide) (by decide)).mono ?_; rintro e w1 ⟨rfl, rfl⟩)
  have hRB : w.heap.size + 1 ≤ w0.heap.size := hs0
  have hq2 : (q : Int) < 11 := by omega
  refine wp_region_held_drew (S := (fun w' => Below (w.heap.size + 1) w0 w' ∧ ∀ b o, b < w.heap.size + 1 → w'.cell? ⟨b, o, none⟩ = w0.cell? ⟨b, o, none⟩)) (by kernel_rfl) (by exact undr (Below.refl _ _).drew) (fun hHeld => ?_)
  (refine H_take (i := 1) rfl (by kernel_rfl) (by kernel_rfl) (by kernel_rfl) (fun _ _ _ _ h => h) hHeld (by rfl) ?_; apply Exists.intro; refine ⟨fun w1 hS1 => ?_, ?_⟩; (focus ((try dsimp only at hS1); go_split_ands; go_simp; first | done | with_reducible rfl | exact rfl)); try simp only [Act.put, List.setIfInBounds_toArray, List.set, List.getElem_toArray, List.getElem_cons_zero, List.getElem_cons_succ])
  (refine H_take (i := 2) rfl (by kernel_rfl) (by kernel_rfl) (by kernel_rfl) (fun _ _ _ _ h => h) hHeld (by rfl) ?_; apply Exists.intro; refine ⟨fun w1 hS1 => ?_, ?_⟩; (focus ((try dsimp only at hS1); go_split_ands; go_simp; first | done | with_reducible rfl | exact rfl)); try simp only [Act.put, List.setIfInBounds_toArray, List.set, List.getElem_toArray, List.getElem_cons_zero, List.getElem_cons_succ])
  refine H_one (i := 0) (by kernel_rfl) rfl (fun K hK => ?_)
  go_simp
  (go_at_call 46; refine (nets_at q _ hq1).mono ?_; rintro e w1 ⟨rfl, hb1, hs1', hn0, hn1⟩)
  refine hK.out _ _ (by (try dsimp only); exact undr (undr_step hRB hHeld.1 hb1)) (fun hHeld => ?_)
  clear hK K
  try simp only [Act.put, List.setIfInBounds_toArray, List.set, List.getElem_toArray, List.getElem_cons_zero, List.getElem_cons_succ]
  refine H_one (i := 3) (by kernel_rfl) rfl (fun K hK => ?_)
  go_simp
  (go_at_call 46; refine (nets_at q _ hq1).mono ?_; rintro e w2 ⟨rfl, hb2, hs2', _, _⟩)
  refine hK.out _ _ (by (try dsimp only); exact undr (undr_step hRB hHeld.1 hb2)) (fun hHeld => ?_)
  clear hK K
  try simp only [Act.put, List.setIfInBounds_toArray, List.set, List.getElem_toArray, List.getElem_cons_zero, List.getElem_cons_succ]
  (refine H_take (i := 4) rfl (by kernel_rfl) (by kernel_rfl) (by kernel_rfl) (fun _ _ _ _ h => h) hHeld (by rfl) ?_; apply Exists.intro; refine ⟨fun w1 hS1 => ?_, ?_⟩; (focus ((try dsimp only at hS1); go_split_ands; go_simp; first | done | with_reducible rfl | exact rfl)); try simp only [Act.put, List.setIfInBounds_toArray, List.set, List.getElem_toArray, List.getElem_cons_zero, List.getElem_cons_succ])
  refine H_one (i := 5) (by kernel_rfl) rfl (fun K hK => ?_)
  go_simp
  (go_at_call 10; refine (picked_is _ _ _ _ Q h2.1 h2.2 (by decide) (by decide)).mono ?_; rintro e w3 ⟨rfl, rfl⟩)
  refine hK.out _ _ (by (try dsimp only); exact hHeld) (fun hHeld => ?_)
  clear hK K
  try simp only [Act.put, List.setIfInBounds_toArray, List.set, List.getElem_toArray, List.getElem_cons_zero, List.getElem_cons_succ]
  (refine H_take (i := 6) rfl (by kernel_rfl) (by kernel_rfl) (by kernel_rfl) (fun _ _ _ _ h => h) hHeld (by rfl) ?_; apply Exists.intro; refine ⟨fun w1 hS1 => ?_, ?_⟩; (focus ((try dsimp only at hS1); go_split_ands; go_simp; first | done | with_reducible rfl | exact rfl)); try simp only [Act.put, List.setIfInBounds_toArray, List.set, List.getElem_toArray, List.getElem_cons_zero, List.getElem_cons_succ])
  have hB2 : Below w0.heap.size w0 w2 := below_step (below_undrew hb1) hb2
  have m0 : w2.cell? ⟨w0.heap.size, q * 2, none⟩ = some (.int .u32 (netA q : Int)) := keeps hb2 hn0
  have m1 : w2.cell? ⟨w0.heap.size, q * 2 + 1, none⟩ = some (.int .i64 (netB q : Int)) := keeps hb2 hn1
  have r0 := keeps hB2 hc1_0
  have r1 := keeps hB2 hc1_1
  have z0 := fun o => keepsF hB2 hs1 (hz1 o)
  have hwf := hw.trans (hB2.mono hw.size)
  refine H_one (i := 7) (by kernel_rfl) rfl (fun K hK => ?_)
  go_simp
  skip
  refine hK.out _ _ (by (try dsimp only); exact hHeld) (fun hHeld => ?_)
  clear hK K
  try simp only [Act.put, List.setIfInBounds_toArray, List.set, List.getElem_toArray, List.getElem_cons_zero, List.getElem_cons_succ]
  refine H_one (i := 8) (by kernel_rfl) rfl (fun K hK => ?_)
  go_simp
  skip
  refine hK.out _ _ (by (try dsimp only); exact undr ((hHeld.1.setCell (by simp) _).setCell (by simp) _)) (fun hHeld => ?_)
  clear hK K
  try simp only [Act.put, List.setIfInBounds_toArray, List.set, List.getElem_toArray, List.getElem_cons_zero, List.getElem_cons_succ]
  refine wpAnyH_done (by kernel_rfl) ?_ _
  go_wp2
  refine bodyPost_ret (v := netV (netA q) (netB q)) (by simp [results, Tryd.results24, go_sem, r0, r1]) rfl ⟨by rw [EA.out, EB.out], (hwf.setCell (by simp) _).setCell (by simp) _⟩

theorem net_round (x q k : Nat) (hx : x < 4294967296) (h0 : q ≤ k) (h : k < 32) :
    bits BinOp.andNot IntKind.u32 ((pnetTo x q k : Nat) : Int) (2 ^ (31 - k) % 4294967296) = ((pnetTo x q (k + 1) : Nat) : Int) := by
  have hp : 2 ^ (31 - k) < 4294967296 := by
    have : 2 ^ (31 - k) < 2 ^ 32 := Nat.pow_lt_pow_right (by omega) (by omega)
    simpa using this
  have e : (2 ^ (31 - k) % 4294967296 : Int) = ((2 ^ (31 - k) : Nat) : Int) := by
    rw [← Nat.mod_eq_of_lt hp, Int.natCast_emod, Int.natCast_pow]; rfl
  rw [e, u32_andNot_nat _ _ (pnetTo_lt x q k hx h0 (by omega)) hp, pnetTo_step x q k hx h0 h]

set_option maxHeartbeats 800000 in
theorem net_other (kind a b : Int) (s : ByteArray) (w : World) (h1 : IntOk kind) (h2 : IntOk b) (hp : ¬ 0 < ppick kind 4) :
    Calls Tryd.prog 24 #[rawV kind a b s] w fun e w' => e = .returned (netV (pnetA kind a b) (pnetB kind a b)) ∧ Below w.heap.size w w' := by
  obtain ⟨q, hq⟩ := Int.eq_ofNat_of_zero_le (ppick_pos (n := b) (m := 33) (by omega)).1
  have hq1 : q ≤ 32 := by have := (ppick_pos (n := b) (m := 33) (by omega)).2; omega
  obtain ⟨x, hx⟩ := Int.eq_ofNat_of_zero_le (Int.emod_nonneg a (by decide : (4294967296 : Int) ≠ 0))
  have hx1 : x < 4294967296 := by have := Int.emod_lt_of_pos a (by decide : (0 : Int) < 4294967296); omega
  have EA := Lib.hid (show pnetA kind a b = pcut x q by unfold pnetA; rw [if_neg hp, hx, hq, Int.toNat_natCast, Int.toNat_natCast])
  have EB := Lib.hid (show pnetB kind a b = q by unfold pnetB; rw [if_neg hp, hq, Int.toNat_natCast])
  have Q := Lib.hid hq
  clear hq
  go_enter Tryd.func24, Tryd.ntmps24
  go_wp2_with (fail)
  have hw : Below w.heap.size w ((w.alloc (Obj.cells #[.int .i64 kind, .int .i64 a, .int .i64 b, .string s] 75)).alloc (Obj.cells #[.int .u32 0, .int .i64 0] 51)) := ((((Below.refl w.heap.size w).alloc (by first | exact Nat.le_refl _ | (simp; done) | (simp; omega)) _)).alloc (by first | exact Nat.le_refl _ | (simp; done) | (simp; omega)) _)
  have hc0_0 : ((w.alloc (Obj.cells #[.int .i64 kind, .int .i64 a, .int .i64 b, .string s] 75)).alloc (Obj.cells #[.int .u32 0, .int .i64 0] 51)).cell? ⟨w.heap.size, 0, none⟩ = some (.int .i64 kind) := cell_up (cell_at (by first | rfl | simp) 0 rfl)
  have hc0_1 : ((w.alloc (Obj.cells #[.int .i64 kind, .int .i64 a, .int .i64 b, .string s] 75)).alloc (Obj.cells #[.int .u32 0, .int .i64 0] 51)).cell? ⟨w.heap.size, 1, none⟩ = some (.int .i64 a) := cell_up (cell_at (by first | rfl | simp) 1 rfl)
  have hc0_2 : ((w.alloc (Obj.cells #[.int .i64 kind, .int .i64 a, .int .i64 b, .string s] 75)).alloc (Obj.cells #[.int .u32 0, .int .i64 0] 51)).cell? ⟨w.heap.size, 2, none⟩ = some (.int .i64 b) := cell_up (cell_at (by first | rfl | simp) 2 rfl)
  have hc0_3 : ((w.alloc (Obj.cells #[.int .i64 kind, .int .i64 a, .int .i64 b, .string s] 75)).alloc (Obj.cells #[.int .u32 0, .int .i64 0] 51)).cell? ⟨w.heap.size, 3, none⟩ = some (.string s) := cell_up (cell_at (by first | rfl | simp) 3 rfl)
  have hc1_0 : ((w.alloc (Obj.cells #[.int .i64 kind, .int .i64 a, .int .i64 b, .string s] 75)).alloc (Obj.cells #[.int .u32 0, .int .i64 0] 51)).cell? ⟨w.heap.size + 1, 0, none⟩ = some (.int .u32 0) := cell_at (by first | rfl | simp) 0 rfl
  have hc1_1 : ((w.alloc (Obj.cells #[.int .i64 kind, .int .i64 a, .int .i64 b, .string s] 75)).alloc (Obj.cells #[.int .u32 0, .int .i64 0] 51)).cell? ⟨w.heap.size + 1, 1, none⟩ = some (.int .i64 0) := cell_at (by first | rfl | simp) 1 rfl
  have hs0 : w.heap.size < ((w.alloc (Obj.cells #[.int .i64 kind, .int .i64 a, .int .i64 b, .string s] 75)).alloc (Obj.cells #[.int .u32 0, .int .i64 0] 51)).heap.size := by simp <;> omega
  have hs1 : w.heap.size + 1 < ((w.alloc (Obj.cells #[.int .i64 kind, .int .i64 a, .int .i64 b, .string s] 75)).alloc (Obj.cells #[.int .u32 0, .int .i64 0] 51)).heap.size := by simp <;> omega
  have hz0 : ∀ o, ((w.alloc (Obj.cells #[.int .i64 kind, .int .i64 a, .int .i64 b, .string s] 75)).alloc (Obj.cells #[.int .u32 0, .int .i64 0] 51)).frozen? ⟨w.heap.size, o, none⟩ = false := fun o => froz_up (by first | (simp; done) | (simp; omega)) (froz_at (by first | rfl | simp) o)
  have hz1 : ∀ o, ((w.alloc (Obj.cells #[.int .i64 kind, .int .i64 a, .int .i64 b, .string s] 75)).alloc (Obj.cells #[.int .u32 0, .int .i64 0] 51)).frozen? ⟨w.heap.size + 1, o, none⟩ = false := fun o => froz_at (by first | rfl | simp) o
  generalize ((w.alloc (Obj.cells #[.int .i64 kind, .int .i64 a, .int .i64 b, .string s] 75)).alloc (Obj.cells #[.int .u32 0, .int .i64 0] 51)) = w0 at *
  have hB : Below w0.heap.size w0 w0 := Below.refl _ _
  go_wp2_with (go_at_call 10; first | ((with_reducible refine (picked_is b 33 q _ Q h2.1 h2.2 (by decide) (by decide)).mono ?_); rintro e w1 ⟨rfl, rfl⟩) | ((with_reducible refine (picked_any kind 4 _ h1.1 h1.2 (by decide) (by decide)).mono ?_); rintro e w1 ⟨rfl, rfl⟩))
  go_loop [4, 5] (fun t i => ∃ k : Nat, q ≤ k ∧ k ≤ 32 ∧ i = .int .i64 k ∧ t = .int .u32 ((pnetTo x q k : Nat) : Int)) (fun _ i => 32 - (intOf i).toNat)
  case atStart => exact ⟨q, Nat.le_refl _, hq1, rfl, by rw [hx, pnetTo_start]⟩
  case round =>
    obtain ⟨k, hk0, hk, rfl, rfl⟩ := hrel
    by_cases hlt : k < 32
    · go_wp2
      go_round
      case rel => exact ⟨k + 1, by omega, by omega, by go_num, by rw [net_round x q k hx1 hk0 hlt]⟩
      case measure => simp [intOf]; omega
    · obtain rfl : k = 32 := by omega
      have E32 := Lib.hid (pnetTo_end x q)
      go_wp2
      refine bodyPost_ret (v := netV (pcut x q) q) (by simp [results, Tryd.results24, go_sem, hc1_0, hc1_1, hz1, E32.out]) rfl ⟨by rw [EA.out, EB.out], (hw.setCell (by simp) _).setCell (by simp) _⟩
theorem net_any (kind a b : Int) (s : ByteArray) (w : World) (h1 : IntOk kind) (h2 : IntOk a) (h3 : IntOk b) :
    Calls Tryd.prog 24 #[rawV kind a b s] w fun e w' => e = .returned (netV (pnetA kind a b) (pnetB kind a b)) ∧ Below w.heap.size w w' := by
  by_cases hp : 0 < ppick kind 4
  · exact net_one kind a b s w h1 h2 hp
  · exact net_other kind a b s w h1 h3 hp
theorem pnetA_lt (kind a b : Int) : pnetA kind a b < 4294967296 := by
  unfold pnetA
  split
  · exact netA_lt _
  · exact Nat.lt_of_le_of_lt (pcut_le _ _) (by have := Int.emod_lt_of_pos a (by decide : (0 : Int) < 4294967296); omega)
theorem pnet_valid (kind a b : Int) : pvalid (pnetA kind a b) (pnetB kind a b) := by
  unfold pnetA pnetB
  split
  · have h := ppick_pos (n := a) (m := 11) (by omega)
    exact net_valid _ (by omega)
  · have h := ppick_pos (n := b) (m := 33) (by omega)
    exact ⟨by omega, by omega, by rw [Int.toNat_natCast]; exact pcut_mod _ _⟩
theorem pnetB_le (kind a b : Int) : pnetB kind a b ≤ 32 := by have := (pnet_valid kind a b).2.1; omega
end Go.Proofs.YtcebndkiagbddaaDoor
