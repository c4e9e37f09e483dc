/- The join of two networks contains both, and every network that contains both contains their join: the statement NetJoined holds of the program, for every input. No further condition. -/
import Derived.Test.YtnopdnclefopbaaRows
import Derived.Test.YtnopdnclefopbaaFrame
import Derived.Test.YtnopdnclefopbaaJoin
namespace Go.Proofs.Ytnopdnclefopbaa.netJoined
open Go.ChangeShapes Go.WideShapes Go.ChangeAt Go.RowKit
open Go.ChangeMaps (open_string shut_string)
set_option linter.unusedVariables false
theorem below_via {w wm w1 : World} (h : Below w.heap.size w wm) (hb : Below wm.heap.size wm w1) : Below w.heap.size w w1 := h.trans (hb.mono h.size)

set_option maxRecDepth 100000 in
set_option maxHeartbeats 1600000 in
theorem walk (k1 a1 b1 k2 a2 b2 k3 a3 b3 : Int) (s1 s2 s3 : ByteArray) (w : World) (h1 : IntOk k1) (h2 : IntOk a1) (h3 : IntOk b1) (h4 : IntOk k2) (h5 : IntOk a2) (h6 : IntOk b2) (h7 : IntOk k3) (h8 : IntOk a3) (h9 : IntOk b3) :
    Calls Try.prog 6 #[rawV k1 a1 b1 s1, rawV k2 a2 b2 s2, rawV k3 a3 b3 s3] w fun e w' => e = .returned (.bool true) ∧ Below w.heap.size w w' := by
  go_enter Try.func6, Try.ntmps6
  go_wp2_with (fail)
  have hw : Below w.heap.size w (((w.alloc (Obj.cells #[.int .i64 k1, .int .i64 a1, .int .i64 b1, .string s1] 23)).alloc (Obj.cells #[.int .i64 k2, .int .i64 a2, .int .i64 b2, .string s2] 23)).alloc (Obj.cells #[.int .i64 k3, .int .i64 a3, .int .i64 b3, .string s3] 23)) := ((((((Below.refl w.heap.size w).alloc (by first | exact Nat.le_refl _ | (simp; done) | (simp; omega)) _)).alloc (by first | exact Nat.le_refl _ | (simp; done) | (simp; omega)) _)).alloc (by first | exact Nat.le_refl _ | (simp; done) | (simp; omega)) _)
  have hc0_0 : (((w.alloc (Obj.cells #[.int .i64 k1, .int .i64 a1, .int .i64 b1, .string s1] 23)).alloc (Obj.cells #[.int .i64 k2, .int .i64 a2, .int .i64 b2, .string s2] 23)).alloc (Obj.cells #[.int .i64 k3, .int .i64 a3, .int .i64 b3, .string s3] 23)).cell? ⟨w.heap.size, 0, none⟩ = some (.int .i64 k1) := cell_up (cell_up (cell_at (by first | rfl | simp) 0 rfl))
  have hc0_1 : (((w.alloc (Obj.cells #[.int .i64 k1, .int .i64 a1, .int .i64 b1, .string s1] 23)).alloc (Obj.cells #[.int .i64 k2, .int .i64 a2, .int .i64 b2, .string s2] 23)).alloc (Obj.cells #[.int .i64 k3, .int .i64 a3, .int .i64 b3, .string s3] 23)).cell? ⟨w.heap.size, 1, none⟩ = some (.int .i64 a1) := cell_up (cell_up (cell_at (by first | rfl | simp) 1 rfl))
  have hc0_2 : (((w.alloc (Obj.cells #[.int .i64 k1, .int .i64 a1, .int .i64 b1, .string s1] 23)).alloc (Obj.cells #[.int .i64 k2, .int .i64 a2, .int .i64 b2, .string s2] 23)).alloc (Obj.cells #[.int .i64 k3, .int .i64 a3, .int .i64 b3, .string s3] 23)).cell? ⟨w.heap.size, 2, none⟩ = some (.int .i64 b1) := cell_up (cell_up (cell_at (by first | rfl | simp) 2 rfl))
  have hc0_3 : (((w.alloc (Obj.cells #[.int .i64 k1, .int .i64 a1, .int .i64 b1, .string s1] 23)).alloc (Obj.cells #[.int .i64 k2, .int .i64 a2, .int .i64 b2, .string s2] 23)).alloc (Obj.cells #[.int .i64 k3, .int .i64 a3, .int .i64 b3, .string s3] 23)).cell? ⟨w.heap.size, 3, none⟩ = some (.string s1) := cell_up (cell_up (cell_at (by first | rfl | simp) 3 rfl))
  have hc1_0 : (((w.alloc (Obj.cells #[.int .i64 k1, .int .i64 a1, .int .i64 b1, .string s1] 23)).alloc (Obj.cells #[.int .i64 k2, .int .i64 a2, .int .i64 b2, .string s2] 23)).alloc (Obj.cells #[.int .i64 k3, .int .i64 a3, .int .i64 b3, .string s3] 23)).cell? ⟨w.heap.size + 1, 0, none⟩ = some (.int .i64 k2) := cell_up (cell_at (by first | rfl | simp) 0 rfl)
  have hc1_1 : (((w.alloc (Obj.cells #[.int .i64 k1, .int .i64 a1, .int .i64 b1, .string s1] 23)).alloc (Obj.cells #[.int .i64 k2, .int .i64 a2, .int .i64 b2, .string s2] 23)).alloc (Obj.cells #[.int .i64 k3, .int .i64 a3, .int .i64 b3, .string s3] 23)).cell? ⟨w.heap.size + 1, 1, none⟩ = some (.int .i64 a2) := cell_up (cell_at (by first | rfl | simp) 1 rfl)
  have hc1_2 : (((w.alloc (Obj.cells #[.int .i64 k1, .int .i64 a1, .int .i64 b1, .string s1] 23)).alloc (Obj.cells #[.int .i64 k2, .int .i64 a2, .int .i64 b2, .string s2] 23)).alloc (Obj.cells #[.int .i64 k3, .int .i64 a3, .int .i64 b3, .string s3] 23)).cell? ⟨w.heap.size + 1, 2, none⟩ = some (.int .i64 b2) := cell_up (cell_at (by first | rfl | simp) 2 rfl)
  have hc1_3 : (((w.alloc (Obj.cells #[.int .i64 k1, .int .i64 a1, .int .i64 b1, .string s1] 23)).alloc (Obj.cells #[.int .i64 k2, .int .i64 a2, .int .i64 b2, .string s2] 23)).alloc (Obj.cells #[.int .i64 k3, .int .i64 a3, .int .i64 b3, .string s3] 23)).cell? ⟨w.heap.size + 1, 3, none⟩ = some (.string s2) := cell_up (cell_at (by first | rfl | simp) 3 rfl)
  have hc2_0 : (((w.alloc (Obj.cells #[.int .i64 k1, .int .i64 a1, .int .i64 b1, .string s1] 23)).alloc (Obj.cells #[.int .i64 k2, .int .i64 a2, .int .i64 b2, .string s2] 23)).alloc (Obj.cells #[.int .i64 k3, .int .i64 a3, .int .i64 b3, .string s3] 23)).cell? ⟨w.heap.size + 1 + 1, 0, none⟩ = some (.int .i64 k3) := cell_at (by first | rfl | simp) 0 rfl
  have hc2_1 : (((w.alloc (Obj.cells #[.int .i64 k1, .int .i64 a1, .int .i64 b1, .string s1] 23)).alloc (Obj.cells #[.int .i64 k2, .int .i64 a2, .int .i64 b2, .string s2] 23)).alloc (Obj.cells #[.int .i64 k3, .int .i64 a3, .int .i64 b3, .string s3] 23)).cell? ⟨w.heap.size + 1 + 1, 1, none⟩ = some (.int .i64 a3) := cell_at (by first | rfl | simp) 1 rfl
  have hc2_2 : (((w.alloc (Obj.cells #[.int .i64 k1, .int .i64 a1, .int .i64 b1, .string s1] 23)).alloc (Obj.cells #[.int .i64 k2, .int .i64 a2, .int .i64 b2, .string s2] 23)).alloc (Obj.cells #[.int .i64 k3, .int .i64 a3, .int .i64 b3, .string s3] 23)).cell? ⟨w.heap.size + 1 + 1, 2, none⟩ = some (.int .i64 b3) := cell_at (by first | rfl | simp) 2 rfl
  have hc2_3 : (((w.alloc (Obj.cells #[.int .i64 k1, .int .i64 a1, .int .i64 b1, .string s1] 23)).alloc (Obj.cells #[.int .i64 k2, .int .i64 a2, .int .i64 b2, .string s2] 23)).alloc (Obj.cells #[.int .i64 k3, .int .i64 a3, .int .i64 b3, .string s3] 23)).cell? ⟨w.heap.size + 1 + 1, 3, none⟩ = some (.string s3) := cell_at (by first | rfl | simp) 3 rfl
  have hs0 : w.heap.size < (((w.alloc (Obj.cells #[.int .i64 k1, .int .i64 a1, .int .i64 b1, .string s1] 23)).alloc (Obj.cells #[.int .i64 k2, .int .i64 a2, .int .i64 b2, .string s2] 23)).alloc (Obj.cells #[.int .i64 k3, .int .i64 a3, .int .i64 b3, .string s3] 23)).heap.size := by simp <;> omega
  have hs1 : w.heap.size + 1 < (((w.alloc (Obj.cells #[.int .i64 k1, .int .i64 a1, .int .i64 b1, .string s1] 23)).alloc (Obj.cells #[.int .i64 k2, .int .i64 a2, .int .i64 b2, .string s2] 23)).alloc (Obj.cells #[.int .i64 k3, .int .i64 a3, .int .i64 b3, .string s3] 23)).heap.size := by simp <;> omega
  have hs2 : w.heap.size + 1 + 1 < (((w.alloc (Obj.cells #[.int .i64 k1, .int .i64 a1, .int .i64 b1, .string s1] 23)).alloc (Obj.cells #[.int .i64 k2, .int .i64 a2, .int .i64 b2, .string s2] 23)).alloc (Obj.cells #[.int .i64 k3, .int .i64 a3, .int .i64 b3, .string s3] 23)).heap.size := by simp <;> omega
  have hz0 : ∀ o, (((w.alloc (Obj.cells #[.int .i64 k1, .int .i64 a1, .int .i64 b1, .string s1] 23)).alloc (Obj.cells #[.int .i64 k2, .int .i64 a2, .int .i64 b2, .string s2] 23)).alloc (Obj.cells #[.int .i64 k3, .int .i64 a3, .int .i64 b3, .string s3] 23)).frozen? ⟨w.heap.size, o, none⟩ = false := fun o => froz_up (by first | (simp; done) | (simp; omega)) (froz_up (by first | (simp; done) | (simp; omega)) (froz_at (by first | rfl | simp) o))
  have hz1 : ∀ o, (((w.alloc (Obj.cells #[.int .i64 k1, .int .i64 a1, .int .i64 b1, .string s1] 23)).alloc (Obj.cells #[.int .i64 k2, .int .i64 a2, .int .i64 b2, .string s2] 23)).alloc (Obj.cells #[.int .i64 k3, .int .i64 a3, .int .i64 b3, .string s3] 23)).frozen? ⟨w.heap.size + 1, o, none⟩ = false := fun o => froz_up (by first | (simp; done) | (simp; omega)) (froz_at (by first | rfl | simp) o)
  have hz2 : ∀ o, (((w.alloc (Obj.cells #[.int .i64 k1, .int .i64 a1, .int .i64 b1, .string s1] 23)).alloc (Obj.cells #[.int .i64 k2, .int .i64 a2, .int .i64 b2, .string s2] 23)).alloc (Obj.cells #[.int .i64 k3, .int .i64 a3, .int .i64 b3, .string s3] 23)).frozen? ⟨w.heap.size + 1 + 1, o, none⟩ = false := fun o => froz_at (by first | rfl | simp) o
  generalize (((w.alloc (Obj.cells #[.int .i64 k1, .int .i64 a1, .int .i64 b1, .string s1] 23)).alloc (Obj.cells #[.int .i64 k2, .int .i64 a2, .int .i64 b2, .string s2] 23)).alloc (Obj.cells #[.int .i64 k3, .int .i64 a3, .int .i64 b3, .string s3] 23)) = w0 at *
  have hB : Below w0.heap.size w0 w0 := Below.refl _ _
  refine wp_region_float (m := 9) (S := fun w2 => Below w0.heap.size w0 w2) (by kernel_rfl) (by kernel_rfl) (by kernel_rfl) (fun L a w1 => ∃ v7 v8 v9 v14 v15 v16 v17 v18 v19, a = { tmps := #[rawV k1 a1 b1 s1, rawV k2 a2 b2 s2, rawV k3 a3 b3 s3, .pointer (some ⟨w.heap.size, 0, none⟩), .pointer (some ⟨w.heap.size + 1, 0, none⟩), .pointer (some ⟨w.heap.size + 1 + 1, 0, none⟩), .bool false, v7, v8, v9, undef, undef, undef, undef, v14, v15, v16, v17, v18, v19, undef, undef, undef, undef, undef, undef, undef, undef, undef, undef, undef, undef, undef, undef, undef, undef, undef, undef, undef, undef, undef, undef, undef, undef, undef, undef, undef, undef, undef, undef, undef, undef, undef, undef, undef, undef, undef, undef, undef, undef, undef, undef, undef, undef, undef, undef, undef, undef, undef], defers := [] } ∧ Below w0.heap.size w0 w1 ∧ (L 6 = true → Fresh w0.heap.size w1 v7 [.int .u32 0, .int .i64 0]) ∧ (L 7 = true → Fresh w0.heap.size w1 v8 [.int .u32 0, .int .i64 0]) ∧ (L 8 = true → Fresh w0.heap.size w1 v9 [.int .u32 0, .int .i64 0]) ∧ (L 0 = true → v14 = rawV k1 a1 b1 s1) ∧ (L 1 = true → v15 = netV (pnetA k1 a1 b1) (pnetB k1 a1 b1)) ∧ (L 2 = true → v16 = rawV k2 a2 b2 s2) ∧ (L 3 = true → v17 = netV (pnetA k2 a2 b2) (pnetB k2 a2 b2)) ∧ (L 4 = true → v18 = rawV k3 a3 b3 s3) ∧ (L 5 = true → v19 = netV (pnetA k3 a3 b3) (pnetB k3 a3 b3)) ∧ (L 6 = true → L 7 = true → v7 ≠ v8) ∧ (L 6 = true → L 8 = true → v7 ≠ v9) ∧ (L 7 = true → L 8 = true → v8 ≠ v9)) ?_ ?_ ?_
  · intro L hL
    refine ⟨_, _, _, _, _, _, _, _, _, rfl, hB.drew, ?_⟩
    simp [hL]
  · intro L a w1 i o K hi ho hLi hd ⟨v7, v8, v9, v14, v15, v16, v17, v18, v19, ha, hb, r7, r8, r9, r14, r15, r16, r17, r18, r19, d7_8, d7_9, d8_9⟩ hK
    subst ha
    have hc := (bcell hb).1
    match i, hi with
    | 0, _ =>
      obtain rfl := Option.some.inj ho
      simp [Region.binds] at hd
      go_simp
      exact hK _ _ ⟨v7, v8, v9, _, v15, v16, v17, v18, v19, rfl, hb, r7, r8, r9, fun _ => rfl, r15, r16, r17, r18, r19, d7_8, d7_9, d8_9⟩
    | 1, _ =>
      obtain rfl := Option.some.inj ho
      simp [Region.binds] at hd
      obtain rfl := r14 (by first | exact hd | exact hd.1 | exact hd.2 | exact hd.2.1 | exact hd.2.2)
      go_simp
      go_at_call 19; (with_reducible refine (net_any _ _ _ _ _ h1 h2 h3).mono ?_); rintro e w2 ⟨rfl, hb2⟩
      exact hK _ _ ⟨_, _, _, _, _, _, _, _, _, rfl, below_step hb hb2, (by first | exact (fun h => (r7 h).below hb2) | exact fun _ => rfl), (by first | exact (fun h => (r8 h).below hb2) | exact fun _ => rfl), (by first | exact (fun h => (r9 h).below hb2) | exact fun _ => rfl), (by first | exact r14 | exact fun _ => rfl), (by first | exact (fun _ => rfl) | exact fun _ => rfl), (by first | exact r16 | exact fun _ => rfl), (by first | exact r17 | exact fun _ => rfl), (by first | exact r18 | exact fun _ => rfl), (by first | exact r19 | exact fun _ => rfl), (by first | exact d7_8 | exact fun _ => rfl), (by first | exact d7_9 | exact fun _ => rfl), (by first | exact d8_9 | exact fun _ => rfl)⟩
    | 2, _ =>
      obtain rfl := Option.some.inj ho
      simp [Region.binds] at hd
      go_simp
      exact hK _ _ ⟨v7, v8, v9, v14, v15, _, v17, v18, v19, rfl, hb, r7, r8, r9, r14, r15, fun _ => rfl, r17, r18, r19, d7_8, d7_9, d8_9⟩
    | 3, _ =>
      obtain rfl := Option.some.inj ho
      simp [Region.binds] at hd
      obtain rfl := r16 (by first | exact hd | exact hd.1 | exact hd.2 | exact hd.2.1 | exact hd.2.2)
      go_simp
      go_at_call 19; (with_reducible refine (net_any _ _ _ _ _ h4 h5 h6).mono ?_); rintro e w2 ⟨rfl, hb2⟩
      exact hK _ _ ⟨_, _, _, _, _, _, _, _, _, rfl, below_step hb hb2, (by first | exact (fun h => (r7 h).below hb2) | exact fun _ => rfl), (by first | exact (fun h => (r8 h).below hb2) | exact fun _ => rfl), (by first | exact (fun h => (r9 h).below hb2) | exact fun _ => rfl), (by first | exact r14 | exact fun _ => rfl), (by first | exact r15 | exact fun _ => rfl), (by first | exact r16 | exact fun _ => rfl), (by first | exact (fun _ => rfl) | exact fun _ => rfl), (by first | exact r18 | exact fun _ => rfl), (by first | exact r19 | exact fun _ => rfl), (by first | exact d7_8 | exact fun _ => rfl), (by first | exact d7_9 | exact fun _ => rfl), (by first | exact d8_9 | exact fun _ => rfl)⟩
    | 4, _ =>
      obtain rfl := Option.some.inj ho
      simp [Region.binds] at hd
      go_simp
      exact hK _ _ ⟨v7, v8, v9, v14, v15, v16, v17, _, v19, rfl, hb, r7, r8, r9, r14, r15, r16, r17, fun _ => rfl, r19, d7_8, d7_9, d8_9⟩
    | 5, _ =>
      obtain rfl := Option.some.inj ho
      simp [Region.binds] at hd
      obtain rfl := r18 (by first | exact hd | exact hd.1 | exact hd.2 | exact hd.2.1 | exact hd.2.2)
      go_simp
      go_at_call 19; (with_reducible refine (net_any _ _ _ _ _ h7 h8 h9).mono ?_); rintro e w2 ⟨rfl, hb2⟩
      exact hK _ _ ⟨_, _, _, _, _, _, _, _, _, rfl, below_step hb hb2, (by first | exact (fun h => (r7 h).below hb2) | exact fun _ => rfl), (by first | exact (fun h => (r8 h).below hb2) | exact fun _ => rfl), (by first | exact (fun h => (r9 h).below hb2) | exact fun _ => rfl), (by first | exact r14 | exact fun _ => rfl), (by first | exact r15 | exact fun _ => rfl), (by first | exact r16 | exact fun _ => rfl), (by first | exact r17 | exact fun _ => rfl), (by first | exact r18 | exact fun _ => rfl), (by first | exact (fun _ => rfl) | exact fun _ => rfl), (by first | exact d7_8 | exact fun _ => rfl), (by first | exact d7_9 | exact fun _ => rfl), (by first | exact d8_9 | exact fun _ => rfl)⟩
    | 6, _ =>
      obtain rfl := Option.some.inj ho
      simp [Region.binds] at hd
      go_simp
      exact hK _ _ ⟨_, v8, v9, v14, v15, v16, v17, v18, v19, rfl, hb.alloc hb.size _, (fun _ => Fresh.made _ _ hb.size), (fun h => (r8 h).below (below_alloc _ _)), (fun h => (r9 h).below (below_alloc _ _)), r14, r15, r16, r17, r18, r19, (fun _ h => Ne.symm (r8 h).ne_new), (fun _ h => Ne.symm (r9 h).ne_new), d8_9⟩
    | 7, _ =>
      obtain rfl := Option.some.inj ho
      simp [Region.binds] at hd
      go_simp
      exact hK _ _ ⟨v7, _, v9, v14, v15, v16, v17, v18, v19, rfl, hb.alloc hb.size _, (fun h => (r7 h).below (below_alloc _ _)), (fun _ => Fresh.made _ _ hb.size), (fun h => (r9 h).below (below_alloc _ _)), r14, r15, r16, r17, r18, r19, (fun h _ => (r7 h).ne_new), d7_9, (fun _ h => Ne.symm (r9 h).ne_new)⟩
    | 8, _ =>
      obtain rfl := Option.some.inj ho
      simp [Region.binds] at hd
      go_simp
      exact hK _ _ ⟨v7, v8, _, v14, v15, v16, v17, v18, v19, rfl, hb.alloc hb.size _, (fun h => (r7 h).below (below_alloc _ _)), (fun h => (r8 h).below (below_alloc _ _)), (fun _ => Fresh.made _ _ hb.size), r14, r15, r16, r17, r18, r19, d7_8, (fun h _ => (r7 h).ne_new), (fun h _ => (r8 h).ne_new)⟩
  intro L a w1 hall ⟨v7, v8, v9, v14, v15, v16, v17, v18, v19, ha, hb, r7, r8, r9, r14, r15, r16, r17, r18, r19, d7_8, d7_9, d8_9⟩
  subst ha
  obtain rfl := r14 (hall 0 (by decide))
  clear r14
  obtain rfl := r15 (hall 1 (by decide))
  clear r15
  obtain rfl := r16 (hall 2 (by decide))
  clear r16
  obtain rfl := r17 (hall 3 (by decide))
  clear r17
  obtain rfl := r18 (hall 4 (by decide))
  clear r18
  obtain rfl := r19 (hall 5 (by decide))
  clear r19
  obtain ⟨b7, rfl, g7, l7, c7, z7⟩ := r7 (hall 6 (by decide))
  have c7_0 := c7 0 _ rfl
  have c7_1 := c7 1 _ rfl
  clear c7 r7
  obtain ⟨b8, rfl, g8, l8, c8, z8⟩ := r8 (hall 7 (by decide))
  have c8_0 := c8 0 _ rfl
  have c8_1 := c8 1 _ rfl
  clear c8 r8
  obtain ⟨b9, rfl, g9, l9, c9, z9⟩ := r9 (hall 8 (by decide))
  have c9_0 := c9 0 _ rfl
  have c9_1 := c9 1 _ rfl
  clear c9 r9
  have ne7_8 : b7 ≠ b8 := fun h => d7_8 (hall 6 (by decide)) (hall 7 (by decide)) (by rw [h])
  have ne7_9 : b7 ≠ b9 := fun h => d7_9 (hall 6 (by decide)) (hall 8 (by decide)) (by rw [h])
  have ne8_9 : b8 ≠ b9 := fun h => d8_9 (hall 7 (by decide)) (hall 8 (by decide)) (by rw [h])
  clear d7_8 d7_9 d8_9
  clear hall L
  have hHeld := hb
  refine H_one (i := 9) (by kernel_rfl) rfl (fun K hK => ?_)
  go_simp
  skip
  refine hK.out _ _ (by (try dsimp only); exact (hb.setCell g7 _).setCell g7 _) (fun hHeld => ?_)
  clear hK K
  try simp only [Act.put, List.setIfInBounds_toArray, List.set]
  obtain ⟨w2, hew2, hxw2, how2, hfw2, hnw2, hkw2⟩ := stored (w := w1) (b := b7) [.int .u32 (pnetA k1 a1 b1 : Int), .int .i64 (pnetB k1 a1 b1 : Int)] (by intro i hi; match i, hi with | 0, _ => exact Option.isSome_iff_exists.2 ⟨_, c7_0⟩ | 1, _ => exact Option.isSome_iff_exists.2 ⟨_, c7_1⟩) 
  have hew2 : ((w1.setCell ⟨b7, 0, none⟩ (.int .u32 (pnetA k1 a1 b1 : Int))).setCell ⟨b7, 1, none⟩ (.int .i64 (pnetB k1 a1 b1 : Int))) = w2 := hew2
  rw [hew2]
  clear hew2
  have c7_0 := hxw2 0 _ rfl
  have c7_1 := hxw2 1 _ rfl
  have z7 := fun o => (hfw2 b7 o).trans (z7 o)
  have l7 : b7 < w2.heap.size := by rw [hnw2]; exact l7
  have c8_0 := (how2 b8 0 (ne7_8.symm)).trans c8_0
  have c8_1 := (how2 b8 1 (ne7_8.symm)).trans c8_1
  have z8 := fun o => (hfw2 b8 o).trans (z8 o)
  have l8 : b8 < w2.heap.size := by rw [hnw2]; exact l8
  have c9_0 := (how2 b9 0 (ne7_9.symm)).trans c9_0
  have c9_1 := (how2 b9 1 (ne7_9.symm)).trans c9_1
  have z9 := fun o => (hfw2 b9 o).trans (z9 o)
  have l9 : b9 < w2.heap.size := by rw [hnw2]; exact l9
  refine H_one (i := 10) (by kernel_rfl) rfl (fun K hK => ?_)
  go_simp
  skip
  refine hK.out _ _ (by (try dsimp only); exact (hkw2 _ _ g7 hb).setCell g8 _ |>.setCell g8 _) (fun hHeld => ?_)
  clear hK K
  try simp only [Act.put, List.setIfInBounds_toArray, List.set]
  obtain ⟨w3, hew3, hxw3, how3, hfw3, hnw3, hkw3⟩ := stored (w := w2) (b := b8) [.int .u32 (pnetA k2 a2 b2 : Int), .int .i64 (pnetB k2 a2 b2 : Int)] (by intro i hi; match i, hi with | 0, _ => exact Option.isSome_iff_exists.2 ⟨_, c8_0⟩ | 1, _ => exact Option.isSome_iff_exists.2 ⟨_, c8_1⟩) 
  have hew3 : ((w2.setCell ⟨b8, 0, none⟩ (.int .u32 (pnetA k2 a2 b2 : Int))).setCell ⟨b8, 1, none⟩ (.int .i64 (pnetB k2 a2 b2 : Int))) = w3 := hew3
  rw [hew3]
  clear hew3
  have c8_0 := hxw3 0 _ rfl
  have c8_1 := hxw3 1 _ rfl
  have z8 := fun o => (hfw3 b8 o).trans (z8 o)
  have l8 : b8 < w3.heap.size := by rw [hnw3]; exact l8
  have c7_0 := (how3 b7 0 (ne7_8)).trans c7_0
  have c7_1 := (how3 b7 1 (ne7_8)).trans c7_1
  have z7 := fun o => (hfw3 b7 o).trans (z7 o)
  have l7 : b7 < w3.heap.size := by rw [hnw3]; exact l7
  have c9_0 := (how3 b9 0 (ne8_9.symm)).trans c9_0
  have c9_1 := (how3 b9 1 (ne8_9.symm)).trans c9_1
  have z9 := fun o => (hfw3 b9 o).trans (z9 o)
  have l9 : b9 < w3.heap.size := by rw [hnw3]; exact l9
  refine H_one (i := 11) (by kernel_rfl) rfl (fun K hK => ?_)
  go_simp
  skip
  refine hK.out _ _ (by (try dsimp only); exact (hkw3 _ _ g8 (hkw2 _ _ g7 hb)).setCell g9 _ |>.setCell g9 _) (fun hHeld => ?_)
  clear hK K
  try simp only [Act.put, List.setIfInBounds_toArray, List.set]
  obtain ⟨w4, hew4, hxw4, how4, hfw4, hnw4, hkw4⟩ := stored (w := w3) (b := b9) [.int .u32 (pnetA k3 a3 b3 : Int), .int .i64 (pnetB k3 a3 b3 : Int)] (by intro i hi; match i, hi with | 0, _ => exact Option.isSome_iff_exists.2 ⟨_, c9_0⟩ | 1, _ => exact Option.isSome_iff_exists.2 ⟨_, c9_1⟩) 
  have hew4 : ((w3.setCell ⟨b9, 0, none⟩ (.int .u32 (pnetA k3 a3 b3 : Int))).setCell ⟨b9, 1, none⟩ (.int .i64 (pnetB k3 a3 b3 : Int))) = w4 := hew4
  rw [hew4]
  clear hew4
  have c9_0 := hxw4 0 _ rfl
  have c9_1 := hxw4 1 _ rfl
  have z9 := fun o => (hfw4 b9 o).trans (z9 o)
  have l9 : b9 < w4.heap.size := by rw [hnw4]; exact l9
  have c7_0 := (how4 b7 0 (ne7_9)).trans c7_0
  have c7_1 := (how4 b7 1 (ne7_9)).trans c7_1
  have z7 := fun o => (hfw4 b7 o).trans (z7 o)
  have l7 : b7 < w4.heap.size := by rw [hnw4]; exact l7
  have c8_0 := (how4 b8 0 (ne8_9)).trans c8_0
  have c8_1 := (how4 b8 1 (ne8_9)).trans c8_1
  have z8 := fun o => (hfw4 b8 o).trans (z8 o)
  have l8 : b8 < w4.heap.size := by rw [hnw4]; exact l8
  refine wpAnyH_done (by kernel_rfl) ?_ _
  have hB4 : Below w0.heap.size w0 w4 := hkw4 _ _ g9 (hkw3 _ _ g8 (hkw2 _ _ g7 hb))
  have hW4 := hw.trans (hB4.mono hw.size)
  clear hc0_0 hc0_1 hc0_2 hc0_3 hc1_0 hc1_1 hc1_2 hc1_3 hc2_0 hc2_1 hc2_2 hc2_3 hz0 hz1 hz2 how2 how3 how4 hfw2 hfw3 hfw4 hxw2 hxw3 hxw4 hkw2 hkw3 hkw4
  have va := pnet_valid k1 a1 b1
  have vb := pnet_valid k2 a2 b2
  have vc := pnet_valid k3 a3 b3
  have la := pnetA_lt k1 a1 b1
  have lb := pnetA_lt k2 a2 b2
  have lc := pnetA_lt k3 a3 b3
  have nb := pnetB_le k1 a1 b1
  have mb := pnetB_le k2 a2 b2
  generalize pnetA k1 a1 b1 = A1 at *
  generalize pnetA k2 a2 b2 = A2 at *
  generalize pnetA k3 a3 b3 = A3 at *
  generalize pnetB k1 a1 b1 = B1 at *
  generalize pnetB k2 a2 b2 = B2 at *
  generalize pnetB k3 a3 b3 = B3 at *
  have VA := Lib.hid va
  have VB := Lib.hid vb
  have Hja := Lib.hid (pjoin_holds A1 B1 A2 B2 nb va)
  have Hjb := Lib.hid (pjoin_holds A2 B2 A1 B1 mb vb)
  have Hjb' : Hid (pholds (pcut A1 (pjoin A1 B1 A2 B2)) (pjoin A1 B1 A2 B2 : Int) A2 B2 = true) := by
    have := Hjb.out; rw [pjoin_comm A2 B2 A1 B1, ← pjoin_cut A1 B1 A2 B2 la lb nb] at this; exact this
  have ec := Lib.hid (pjoin_cut A1 B1 A2 B2 la lb nb)
  have ecm := Lib.hid (pjoin_comm A2 B2 A1 B1)
  have hleast := Lib.hid (fun h1 h2 => pjoin_least A1 B1 A2 B2 A3 (B3 : Int) la lb nb h1 h2)
  have lj : pcut A1 (pjoin A1 B1 A2 B2) < 4294967296 := Nat.lt_of_le_of_lt (pcut_le _ _) la
  clear va vb Hjb
  go_wp2_with (fail)
  (with_reducible refine (join_any A1 A2 B1 B2 _ la lb VA.out VB.out).mono ?_)
  rintro e w5 ⟨rfl, hb5⟩
  have hc5 := (bcell hb5).1
  have hB5 : Below w4.heap.size w4 w5 := hb5
  have hs5 := hb5.size
  have q7_0 := keeps hB5 c7_0
  have q7_1 := keeps hB5 c7_1
  have q8_0 := keeps hB5 c8_0
  have q8_1 := keeps hB5 c8_1
  have l7' : b7 < w5.heap.size := Nat.lt_of_lt_of_le l7 hs5
  have l8' : b8 < w5.heap.size := Nat.lt_of_lt_of_le l8 hs5
  clear hc5
  have q9_0 := keeps hB5 c9_0
  have q9_1 := keeps hB5 c9_1
  have l9' : b9 < w5.heap.size := Nat.lt_of_lt_of_le l9 hs5
  have hW5 := below_via hW4 hB5
  go_wp2_with (fail)
  (with_reducible refine (join_any A2 A1 B2 B1 _ lb la VB.out VA.out).mono ?_)
  rintro e w6 ⟨rfl, hb6⟩
  rw [ecm.out, ← ec.out]
  have hs6 : w5.heap.size < w6.heap.size := by have := hb6.size; simp at this; omega
  have p7_0 := keeps hb6 (cell_up q7_0)
  have p7_1 := keeps hb6 (cell_up q7_1)
  have p8_0 := keeps hb6 (cell_up q8_0)
  have p8_1 := keeps hb6 (cell_up q8_1)
  have p9_0 := keeps hb6 (cell_up q9_0)
  have p9_1 := keeps hb6 (cell_up q9_1)
  have pj_0 : w6.cell? ⟨w5.heap.size, 0, none⟩ = some (.int .u32 (pcut A1 (pjoin A1 B1 A2 B2) : Int)) := keeps hb6 (cell_at rfl 0 rfl)
  have pj_1 : w6.cell? ⟨w5.heap.size, 1, none⟩ = some (.int .i64 (pjoin A1 B1 A2 B2 : Int)) := keeps hb6 (cell_at rfl 1 rfl)
  have m7 : b7 < w6.heap.size := by omega
  have m8 : b8 < w6.heap.size := by omega
  have m9 : b9 < w6.heap.size := by omega
  have hW6 := below_via (hW5.alloc hW5.size _) hb6
  clear hb6 q7_0 q7_1 q8_0 q8_1 q9_0 q9_1 c7_0 c7_1 c8_0 c8_1 c9_0 c9_1 hB5 hb5
  go_wp2_with (fail)
  have r7_0 := cell_up (o := (.cells #[.int .u32 (pcut A1 (pjoin A1 B1 A2 B2) : Int), .int .i64 (pjoin A1 B1 A2 B2 : Int)] 26)) p7_0
  have r7_1 := cell_up (o := (.cells #[.int .u32 (pcut A1 (pjoin A1 B1 A2 B2) : Int), .int .i64 (pjoin A1 B1 A2 B2 : Int)] 26)) p7_1
  have r8_0 := cell_up (o := (.cells #[.int .u32 (pcut A1 (pjoin A1 B1 A2 B2) : Int), .int .i64 (pjoin A1 B1 A2 B2 : Int)] 26)) p8_0
  have r8_1 := cell_up (o := (.cells #[.int .u32 (pcut A1 (pjoin A1 B1 A2 B2) : Int), .int .i64 (pjoin A1 B1 A2 B2 : Int)] 26)) p8_1
  have r9_0 := cell_up (o := (.cells #[.int .u32 (pcut A1 (pjoin A1 B1 A2 B2) : Int), .int .i64 (pjoin A1 B1 A2 B2 : Int)] 26)) p9_0
  have r9_1 := cell_up (o := (.cells #[.int .u32 (pcut A1 (pjoin A1 B1 A2 B2) : Int), .int .i64 (pjoin A1 B1 A2 B2 : Int)] 26)) p9_1
  have rj_0 := cell_up (o := (.cells #[.int .u32 (pcut A1 (pjoin A1 B1 A2 B2) : Int), .int .i64 (pjoin A1 B1 A2 B2 : Int)] 26)) pj_0
  have rj_1 := cell_up (o := (.cells #[.int .u32 (pcut A1 (pjoin A1 B1 A2 B2) : Int), .int .i64 (pjoin A1 B1 A2 B2 : Int)] 26)) pj_1
  have n7 : b7 < (w6.alloc (.cells #[.int .u32 (pcut A1 (pjoin A1 B1 A2 B2) : Int), .int .i64 (pjoin A1 B1 A2 B2 : Int)] 26)).heap.size := by simp; omega
  have n8 : b8 < (w6.alloc (.cells #[.int .u32 (pcut A1 (pjoin A1 B1 A2 B2) : Int), .int .i64 (pjoin A1 B1 A2 B2 : Int)] 26)).heap.size := by simp; omega
  have n9 : b9 < (w6.alloc (.cells #[.int .u32 (pcut A1 (pjoin A1 B1 A2 B2) : Int), .int .i64 (pjoin A1 B1 A2 B2 : Int)] 26)).heap.size := by simp; omega
  have nj : w5.heap.size < (w6.alloc (.cells #[.int .u32 (pcut A1 (pjoin A1 B1 A2 B2) : Int), .int .i64 (pjoin A1 B1 A2 B2 : Int)] 26)).heap.size := by simp; omega
  have hW7 := hW6.alloc hW6.size (.cells #[.int .u32 (pcut A1 (pjoin A1 B1 A2 B2) : Int), .int .i64 (pjoin A1 B1 A2 B2 : Int)] 26)
  clear p7_0 p7_1 p8_0 p8_1 p9_0 p9_1 pj_0 pj_1
  generalize w6.alloc (.cells #[.int .u32 (pcut A1 (pjoin A1 B1 A2 B2) : Int), .int .i64 (pjoin A1 B1 A2 B2 : Int)] 26) = w7 at *
  have hB := Below.refl w7.heap.size w7
  obtain ⟨q, hq⟩ : ∃ q, q = pjoin A1 B1 A2 B2 := ⟨_, rfl⟩
  have HL := hleast.out
  have hja := Hja.out
  have hjb := Hjb'.out
  rw [← hq] at HL hja hjb rj_0 rj_1 lj ⊢
  obtain ⟨J, hJ⟩ : ∃ J, J = pcut A1 q := ⟨_, rfl⟩
  rw [← hJ] at HL hja hjb rj_0 lj ⊢
  have Hja := Lib.hid hja
  have Hjb := Lib.hid hjb
  clear hJ hq hleast Hjb' hja hjb ec ecm
  cases hca : pholds A3 B3 A1 B1
  · have Hca := Lib.hid hca
    clear hca HL
    go_wp2_with (first | (go_at_call 20; (with_reducible refine (holds_is J q A1 B1 _ _ lj la Hja).mono ?_); rintro e w1 ⟨rfl, hb⟩; have hB := below_step hB hb; have hc := (bcell hB).1) | (go_at_call 20; (with_reducible refine (holds_is J q A2 B2 _ _ lj lb Hjb).mono ?_); rintro e w1 ⟨rfl, hb⟩; have hB := below_step hB hb; have hc := (bcell hB).1) | (go_at_call 20; (with_reducible refine (holds_is A3 B3 A1 B1 _ _ lc la Hca).mono ?_); rintro e w1 ⟨rfl, hb⟩; have hB := below_step hB hb; have hc := (bcell hB).1))
    go_ret
    exact ⟨rfl, below_via hW7 hB⟩
  · cases hcb : pholds A3 B3 A2 B2
    · have Hca := Lib.hid hca
      have Hcb := Lib.hid hcb
      clear hca hcb HL
      go_wp2_with (first | (go_at_call 20; (with_reducible refine (holds_is J q A1 B1 _ _ lj la Hja).mono ?_); rintro e w1 ⟨rfl, hb⟩; have hB := below_step hB hb; have hc := (bcell hB).1) | (go_at_call 20; (with_reducible refine (holds_is J q A2 B2 _ _ lj lb Hjb).mono ?_); rintro e w1 ⟨rfl, hb⟩; have hB := below_step hB hb; have hc := (bcell hB).1) | (go_at_call 20; (with_reducible refine (holds_is A3 B3 A1 B1 _ _ lc la Hca).mono ?_); rintro e w1 ⟨rfl, hb⟩; have hB := below_step hB hb; have hc := (bcell hB).1) | (go_at_call 20; (with_reducible refine (holds_is A3 B3 A2 B2 _ _ lc lb Hcb).mono ?_); rintro e w1 ⟨rfl, hb⟩; have hB := below_step hB hb; have hc := (bcell hB).1))
      go_ret
      exact ⟨rfl, below_via hW7 hB⟩
    · have Hcj := Lib.hid (HL hca hcb)
      have Hca := Lib.hid hca
      have Hcb := Lib.hid hcb
      clear hca hcb HL
      go_wp2_with (first | (go_at_call 20; (with_reducible refine (holds_is J q A1 B1 _ _ lj la Hja).mono ?_); rintro e w1 ⟨rfl, hb⟩; have hB := below_step hB hb; have hc := (bcell hB).1) | (go_at_call 20; (with_reducible refine (holds_is J q A2 B2 _ _ lj lb Hjb).mono ?_); rintro e w1 ⟨rfl, hb⟩; have hB := below_step hB hb; have hc := (bcell hB).1) | (go_at_call 20; (with_reducible refine (holds_is A3 B3 A1 B1 _ _ lc la Hca).mono ?_); rintro e w1 ⟨rfl, hb⟩; have hB := below_step hB hb; have hc := (bcell hB).1) | (go_at_call 20; (with_reducible refine (holds_is A3 B3 A2 B2 _ _ lc lb Hcb).mono ?_); rintro e w1 ⟨rfl, hb⟩; have hB := below_step hB hb; have hc := (bcell hB).1) | (go_at_call 20; (with_reducible refine (holds_is A3 B3 J q _ _ lc lj Hcj).mono ?_); rintro e w1 ⟨rfl, hb⟩; have hB := below_step hB hb; have hc := (bcell hB).1))
      go_ret
      exact ⟨rfl, below_via hW7 hB⟩

set_option maxRecDepth 100000 in
theorem lifted (os : Os) (started : os.Started) (H : Type) (enc : TypeId × Value → H) :
    ReturnsInHanded {} Try.checked os 6 .any (Rows.netJoinedSpec.pre6 enc Try.prog Try.f6 Rows.netJoinedRow.domain false) (Rows.netJoinedSpec.post enc Try.prog Try.f6 false true false false) := by
  refine returnsInHanded_of_change (C := Try.checked) own started (by kernel_rfl) Try.func6
    (ChangeSpec.witness6 (enc := enc) (C := Try.checked) false ⟨#[], #[.agg #[.int .i64 0, .int .i64 0, .int .i64 0, .string ⟨#[]⟩], .agg #[.int .i64 0, .int .i64 0, .int .i64 0, .string ⟨#[]⟩], .agg #[.int .i64 0, .int .i64 0, .int .i64 0, .string ⟨#[]⟩]], []⟩ 8 (by kernel_rfl) (by kernel_rfl) (by kernel_rfl) (by kernel_rfl)) ?_
  intro W base args ds gs before hval0 hW hcnd _
  have hval : ∀ (j : Nat) t v, Try.f6.params[j]? = some t → args[j]? = some v → Value.okWide Try.prog W .any base t v := hval0
  have hW' := hW
  obtain ⟨p, q, hA0, hV, rfl, hfz, hnd⟩ := hW
  have hA : DataW.TrodAll enc Try.prog W 0 (fun _ => true) true Try.f6.params.toList args.toList ds p := hA0
  rw [Try.params6] at hA hval
  obtain ⟨v0, vs0, d0, ds0, p0, q0, hargs, rfl, rfl, h0, r0⟩ := trodAll_cons hA
  obtain ⟨v1, vs1, d1, ds1, p1, q1, rfl, rfl, rfl, h1, r1⟩ := trodAll_cons r0
  obtain ⟨v2, vs2, d2, ds2, p2, q2, rfl, rfl, rfl, h2, r2⟩ := trodAll_cons r1
  obtain ⟨rfl, rfl, rfl⟩ := trodAll_nil r2
  obtain rfl : args = #[v0, v1, v2] := by cases args; simp_all
  obtain ⟨rfl, rfl⟩ := trodVars_none hV
  have k0 := h0
  have lt0 : ∀ x ∈ p0, x.block < W.heap.size := by obtain ⟨m, hm⟩ := k0; exact DataW.trod_lt m _ _ _ hm
  have k1 := h1
  have lt1 : ∀ x ∈ p1, x.block < W.heap.size := by obtain ⟨m, hm⟩ := k1; exact DataW.trod_lt m _ _ _ hm
  have k2 := h2
  have lt2 : ∀ x ∈ p2, x.block < W.heap.size := by obtain ⟨m, hm⟩ := k2; exact DataW.trod_lt m _ _ _ hm
  obtain ⟨rk0, ra0, rb0, rs0, rfl, ok0_0, ok1_0, ok2_0, len0⟩ := open_raw (hval 0 _ v0 rfl rfl) h0
  obtain ⟨rk1, ra1, rb1, rs1, rfl, ok0_1, ok1_1, ok2_1, len1⟩ := open_raw (hval 1 _ v1 rfl rfl) h1
  obtain ⟨rk2, ra2, rb2, rs2, rfl, ok0_2, ok1_2, ok2_2, len2⟩ := open_raw (hval 2 _ v2 rfl rfl) h2
  clear hA0 hval0
  refine (walk rk0 ra0 rb0 rk1 ra1 rb1 rk2 ra2 rb2 rs0 rs1 rs2 W ok0_0 ok1_0 ok2_0 ok0_1 ok1_1 ok2_1 ok0_2 ok1_2 ok2_2).mono fun e W9 ⟨he, bel⟩ => ?_
  subst he
  exact ⟨_, rfl, _, _, _, [], _, [], hW', trodAll_mk1 (shut_bool Try.underlying4 _), (trodAll_cons_mk (Below.trod laidOut (by kernel_rfl) (of_decide_eq_true (by kernel_rfl)) k0 bel lt0) (trodAll_cons_mk (Below.trod laidOut (by kernel_rfl) (of_decide_eq_true (by kernel_rfl)) k1 bel lt1) (trodAll_cons_mk (Below.trod laidOut (by kernel_rfl) (of_decide_eq_true (by kernel_rfl)) k2 bel lt2) trodAll_mk0))), rfl, bel.frame _, fun h => by cases h⟩

theorem over : Rows.netJoinedRow.holds Try.pinned (OpenSpec.ofChange Rows.netJoinedSpec) :=
  OpenClaim.holds_of_wide 6 Try.f6 rfl rfl rfl rfl rfl rfl rfl ⟨rfl, rfl, rfl, rfl, rfl⟩ rfl rfl rfl rfl rfl (by kernel_rfl) Try.func6 (by kernel_rfl)
    (of_decide_eq_true (by kernel_rfl)) (by unfold Func.isWrapper; first | (rw [if_pos (by decide +kernel)]; kernel_rfl) | (rw [if_neg (by decide +kernel)]; exact ⟨rfl, rfl⟩))
    (fun os started H enc _ => lifted os started H enc)

theorem proved : Rows.NetJoinedSaid := over
#print axioms proved
end Go.Proofs.Ytnopdnclefopbaa.netJoined
