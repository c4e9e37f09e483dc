/- NetWithin: containment of networks is transitive and antisymmetric. The walk. -/
import Derived.Test.YtnopdnclefopbaaRows
import Derived.Test.YtnopdnclefopbaaFloat
import Derived.Test.YtnopdnclefopbaaKitb
import Derived.Test.YtnopdnclefopbaaRaw
import Derived.Test.YtnopdnclefopbaaMathNet
namespace Go.Proofs.Ytnopdnclefopbaa
open Go.RowKit

theorem has_five (w : World) :
    Calls Try.prog 21 #[.agg #[.int .u32 0, .int .i64 0], .int .u32 5] w fun e w' => e = .returned (.bool true) ∧ Below w.heap.size w w' :=
  has_is 0 0 5 true w (by decide) (by decide) (Lib.hid (by decide))
set_option maxRecDepth 100000 in
set_option maxHeartbeats 1600000 in
theorem netWithin_walk (k1 a1 b1 k2 a2 b2 k3 a3 b3 : Int) (s1 s2 s3 : ByteArray) (w : World) (h1 : IntOk k1) (h2 : IntOk a1) (h3 : IntOk b1) (h4 : IntOk k2) (h5 : IntOk a2) (h6 : IntOk b2) (h7 : IntOk k3) (h8 : IntOk a3) (h9 : IntOk b3) :
    Calls Try.prog 3 #[rawV k1 a1 b1 s1, rawV k2 a2 b2 s2, rawV k3 a3 b3 s3] w fun e w' => e = .returned (.bool true) ∧ Below w.heap.size w w' := by
  go_enter Try.func3, Try.ntmps3
  go_wp2_with (fail)
  have hw : Below w.heap.size w (((w.alloc (Obj.cells #[.int .i64 k1, .int .i64 a1, .int .i64 b1, .string s1] 23)).alloc (Obj.cells #[.int .i64 k2, .int .i64 a2, .int .i64 b2, .string s2] 23)).alloc (Obj.cells #[.int .i64 k3, .int .i64 a3, .int .i64 b3, .string s3] 23)) := ((((((Below.refl w.heap.size w).alloc (by first | exact Nat.le_refl _ | (simp; done) | (simp; omega)) _)).alloc (by first | exact Nat.le_refl _ | (simp; done) | (simp; omega)) _)).alloc (by first | exact Nat.le_refl _ | (simp; done) | (simp; omega)) _)
  have hc0_0 : (((w.alloc (Obj.cells #[.int .i64 k1, .int .i64 a1, .int .i64 b1, .string s1] 23)).alloc (Obj.cells #[.int .i64 k2, .int .i64 a2, .int .i64 b2, .string s2] 23)).alloc (Obj.cells #[.int .i64 k3, .int .i64 a3, .int .i64 b3, .string s3] 23)).cell? ⟨w.heap.size, 0, none⟩ = some (.int .i64 k1) := cell_up (cell_up (cell_at (by first | rfl | simp) 0 rfl))
  have hc0_1 : (((w.alloc (Obj.cells #[.int .i64 k1, .int .i64 a1, .int .i64 b1, .string s1] 23)).alloc (Obj.cells #[.int .i64 k2, .int .i64 a2, .int .i64 b2, .string s2] 23)).alloc (Obj.cells #[.int .i64 k3, .int .i64 a3, .int .i64 b3, .string s3] 23)).cell? ⟨w.heap.size, 1, none⟩ = some (.int .i64 a1) := cell_up (cell_up (cell_at (by first | rfl | simp) 1 rfl))
  have hc0_2 : (((w.alloc (Obj.cells #[.int .i64 k1, .int .i64 a1, .int .i64 b1, .string s1] 23)).alloc (Obj.cells #[.int .i64 k2, .int .i64 a2, .int .i64 b2, .string s2] 23)).alloc (Obj.cells #[.int .i64 k3, .int .i64 a3, .int .i64 b3, .string s3] 23)).cell? ⟨w.heap.size, 2, none⟩ = some (.int .i64 b1) := cell_up (cell_up (cell_at (by first | rfl | simp) 2 rfl))
  have hc0_3 : (((w.alloc (Obj.cells #[.int .i64 k1, .int .i64 a1, .int .i64 b1, .string s1] 23)).alloc (Obj.cells #[.int .i64 k2, .int .i64 a2, .int .i64 b2, .string s2] 23)).alloc (Obj.cells #[.int .i64 k3, .int .i64 a3, .int .i64 b3, .string s3] 23)).cell? ⟨w.heap.size, 3, none⟩ = some (.string s1) := cell_up (cell_up (cell_at (by first | rfl | simp) 3 rfl))
  have hc1_0 : (((w.alloc (Obj.cells #[.int .i64 k1, .int .i64 a1, .int .i64 b1, .string s1] 23)).alloc (Obj.cells #[.int .i64 k2, .int .i64 a2, .int .i64 b2, .string s2] 23)).alloc (Obj.cells #[.int .i64 k3, .int .i64 a3, .int .i64 b3, .string s3] 23)).cell? ⟨w.heap.size + 1, 0, none⟩ = some (.int .i64 k2) := cell_up (cell_at (by first | rfl | simp) 0 rfl)
  have hc1_1 : (((w.alloc (Obj.cells #[.int .i64 k1, .int .i64 a1, .int .i64 b1, .string s1] 23)).alloc (Obj.cells #[.int .i64 k2, .int .i64 a2, .int .i64 b2, .string s2] 23)).alloc (Obj.cells #[.int .i64 k3, .int .i64 a3, .int .i64 b3, .string s3] 23)).cell? ⟨w.heap.size + 1, 1, none⟩ = some (.int .i64 a2) := cell_up (cell_at (by first | rfl | simp) 1 rfl)
  have hc1_2 : (((w.alloc (Obj.cells #[.int .i64 k1, .int .i64 a1, .int .i64 b1, .string s1] 23)).alloc (Obj.cells #[.int .i64 k2, .int .i64 a2, .int .i64 b2, .string s2] 23)).alloc (Obj.cells #[.int .i64 k3, .int .i64 a3, .int .i64 b3, .string s3] 23)).cell? ⟨w.heap.size + 1, 2, none⟩ = some (.int .i64 b2) := cell_up (cell_at (by first | rfl | simp) 2 rfl)
  have hc1_3 : (((w.alloc (Obj.cells #[.int .i64 k1, .int .i64 a1, .int .i64 b1, .string s1] 23)).alloc (Obj.cells #[.int .i64 k2, .int .i64 a2, .int .i64 b2, .string s2] 23)).alloc (Obj.cells #[.int .i64 k3, .int .i64 a3, .int .i64 b3, .string s3] 23)).cell? ⟨w.heap.size + 1, 3, none⟩ = some (.string s2) := cell_up (cell_at (by first | rfl | simp) 3 rfl)
  have hc2_0 : (((w.alloc (Obj.cells #[.int .i64 k1, .int .i64 a1, .int .i64 b1, .string s1] 23)).alloc (Obj.cells #[.int .i64 k2, .int .i64 a2, .int .i64 b2, .string s2] 23)).alloc (Obj.cells #[.int .i64 k3, .int .i64 a3, .int .i64 b3, .string s3] 23)).cell? ⟨w.heap.size + 1 + 1, 0, none⟩ = some (.int .i64 k3) := cell_at (by first | rfl | simp) 0 rfl
  have hc2_1 : (((w.alloc (Obj.cells #[.int .i64 k1, .int .i64 a1, .int .i64 b1, .string s1] 23)).alloc (Obj.cells #[.int .i64 k2, .int .i64 a2, .int .i64 b2, .string s2] 23)).alloc (Obj.cells #[.int .i64 k3, .int .i64 a3, .int .i64 b3, .string s3] 23)).cell? ⟨w.heap.size + 1 + 1, 1, none⟩ = some (.int .i64 a3) := cell_at (by first | rfl | simp) 1 rfl
  have hc2_2 : (((w.alloc (Obj.cells #[.int .i64 k1, .int .i64 a1, .int .i64 b1, .string s1] 23)).alloc (Obj.cells #[.int .i64 k2, .int .i64 a2, .int .i64 b2, .string s2] 23)).alloc (Obj.cells #[.int .i64 k3, .int .i64 a3, .int .i64 b3, .string s3] 23)).cell? ⟨w.heap.size + 1 + 1, 2, none⟩ = some (.int .i64 b3) := cell_at (by first | rfl | simp) 2 rfl
  have hc2_3 : (((w.alloc (Obj.cells #[.int .i64 k1, .int .i64 a1, .int .i64 b1, .string s1] 23)).alloc (Obj.cells #[.int .i64 k2, .int .i64 a2, .int .i64 b2, .string s2] 23)).alloc (Obj.cells #[.int .i64 k3, .int .i64 a3, .int .i64 b3, .string s3] 23)).cell? ⟨w.heap.size + 1 + 1, 3, none⟩ = some (.string s3) := cell_at (by first | rfl | simp) 3 rfl
  have hs0 : w.heap.size < (((w.alloc (Obj.cells #[.int .i64 k1, .int .i64 a1, .int .i64 b1, .string s1] 23)).alloc (Obj.cells #[.int .i64 k2, .int .i64 a2, .int .i64 b2, .string s2] 23)).alloc (Obj.cells #[.int .i64 k3, .int .i64 a3, .int .i64 b3, .string s3] 23)).heap.size := by simp <;> omega
  have hs1 : w.heap.size + 1 < (((w.alloc (Obj.cells #[.int .i64 k1, .int .i64 a1, .int .i64 b1, .string s1] 23)).alloc (Obj.cells #[.int .i64 k2, .int .i64 a2, .int .i64 b2, .string s2] 23)).alloc (Obj.cells #[.int .i64 k3, .int .i64 a3, .int .i64 b3, .string s3] 23)).heap.size := by simp <;> omega
  have hs2 : w.heap.size + 1 + 1 < (((w.alloc (Obj.cells #[.int .i64 k1, .int .i64 a1, .int .i64 b1, .string s1] 23)).alloc (Obj.cells #[.int .i64 k2, .int .i64 a2, .int .i64 b2, .string s2] 23)).alloc (Obj.cells #[.int .i64 k3, .int .i64 a3, .int .i64 b3, .string s3] 23)).heap.size := by simp <;> omega
  have hz0 : ∀ o, (((w.alloc (Obj.cells #[.int .i64 k1, .int .i64 a1, .int .i64 b1, .string s1] 23)).alloc (Obj.cells #[.int .i64 k2, .int .i64 a2, .int .i64 b2, .string s2] 23)).alloc (Obj.cells #[.int .i64 k3, .int .i64 a3, .int .i64 b3, .string s3] 23)).frozen? ⟨w.heap.size, o, none⟩ = false := fun o => froz_up (by first | (simp; done) | (simp; omega)) (froz_up (by first | (simp; done) | (simp; omega)) (froz_at (by first | rfl | simp) o))
  have hz1 : ∀ o, (((w.alloc (Obj.cells #[.int .i64 k1, .int .i64 a1, .int .i64 b1, .string s1] 23)).alloc (Obj.cells #[.int .i64 k2, .int .i64 a2, .int .i64 b2, .string s2] 23)).alloc (Obj.cells #[.int .i64 k3, .int .i64 a3, .int .i64 b3, .string s3] 23)).frozen? ⟨w.heap.size + 1, o, none⟩ = false := fun o => froz_up (by first | (simp; done) | (simp; omega)) (froz_at (by first | rfl | simp) o)
  have hz2 : ∀ o, (((w.alloc (Obj.cells #[.int .i64 k1, .int .i64 a1, .int .i64 b1, .string s1] 23)).alloc (Obj.cells #[.int .i64 k2, .int .i64 a2, .int .i64 b2, .string s2] 23)).alloc (Obj.cells #[.int .i64 k3, .int .i64 a3, .int .i64 b3, .string s3] 23)).frozen? ⟨w.heap.size + 1 + 1, o, none⟩ = false := fun o => froz_at (by first | rfl | simp) o
  generalize (((w.alloc (Obj.cells #[.int .i64 k1, .int .i64 a1, .int .i64 b1, .string s1] 23)).alloc (Obj.cells #[.int .i64 k2, .int .i64 a2, .int .i64 b2, .string s2] 23)).alloc (Obj.cells #[.int .i64 k3, .int .i64 a3, .int .i64 b3, .string s3] 23)) = w0 at *
  have hB : Below w0.heap.size w0 w0 := Below.refl _ _
  refine wp_region_float (m := 9) (S := fun w2 => Below w0.heap.size w0 w2) (by kernel_rfl) (by kernel_rfl) (by kernel_rfl) (fun L a w1 => ∃ v7 v8 v9 v10 v11 v12 v13 v14 v15, a = { tmps := #[rawV k1 a1 b1 s1, rawV k2 a2 b2 s2, rawV k3 a3 b3 s3, .pointer (some ⟨w.heap.size, 0, none⟩), .pointer (some ⟨w.heap.size + 1, 0, none⟩), .pointer (some ⟨w.heap.size + 1 + 1, 0, none⟩), .bool false, v7, v8, v9, v10, v11, v12, v13, v14, v15, undef, undef, undef, undef, undef, undef, undef, undef, undef, undef, undef, undef, undef, undef, undef, undef, undef, undef, undef, undef, undef, undef, undef, undef, undef, undef, undef, undef, undef, undef, undef, undef, undef, undef, undef, undef, undef, undef, undef, undef, undef, undef, undef, undef, undef, undef, undef, undef, undef, undef, undef, undef, undef, undef, undef, undef, undef, undef, undef, undef, undef, undef], defers := [] } ∧ Below w0.heap.size w0 w1 ∧ (L 6 = true → Fresh w0.heap.size w1 v7 [.int .u32 0, .int .i64 0]) ∧ (L 7 = true → Fresh w0.heap.size w1 v8 [.int .u32 0, .int .i64 0]) ∧ (L 8 = true → Fresh w0.heap.size w1 v9 [.int .u32 0, .int .i64 0]) ∧ (L 0 = true → v10 = rawV k1 a1 b1 s1) ∧ (L 1 = true → v11 = netV (pnetA k1 a1 b1) (pnetB k1 a1 b1)) ∧ (L 2 = true → v12 = rawV k2 a2 b2 s2) ∧ (L 3 = true → v13 = netV (pnetA k2 a2 b2) (pnetB k2 a2 b2)) ∧ (L 4 = true → v14 = rawV k3 a3 b3 s3) ∧ (L 5 = true → v15 = netV (pnetA k3 a3 b3) (pnetB k3 a3 b3)) ∧ (L 6 = true → L 7 = true → v7 ≠ v8) ∧ (L 6 = true → L 8 = true → v7 ≠ v9) ∧ (L 7 = true → L 8 = true → v8 ≠ v9)) ?_ ?_ ?_
  · intro L hL
    refine ⟨_, _, _, _, _, _, _, _, _, rfl, hB.drew, ?_⟩
    simp [hL]
  · intro L a w1 i o K hi ho hLi hd ⟨v7, v8, v9, v10, v11, v12, v13, v14, v15, ha, hb, r7, r8, r9, r10, r11, r12, r13, r14, r15, d7_8, d7_9, d8_9⟩ hK
    subst ha
    have hc := (bcell hb).1
    match i, hi with
    | 0, _ =>
      obtain rfl := Option.some.inj ho
      simp [Region.binds] at hd
      go_simp
      exact hK _ _ ⟨v7, v8, v9, _, v11, v12, v13, v14, v15, rfl, hb, r7, r8, r9, fun _ => rfl, r11, r12, r13, r14, r15, d7_8, d7_9, d8_9⟩
    | 1, _ =>
      obtain rfl := Option.some.inj ho
      simp [Region.binds] at hd
      obtain rfl := r10 (by first | exact hd | exact hd.1 | exact hd.2 | exact hd.2.1 | exact hd.2.2)
      go_simp
      go_at_call 19; (with_reducible refine (net_any _ _ _ _ _ h1 h2 h3).mono ?_); rintro e w2 ⟨rfl, hb2⟩
      exact hK _ _ ⟨_, _, _, _, _, _, _, _, _, rfl, below_step hb hb2, (by first | exact (fun h => (r7 h).below hb2) | exact fun _ => rfl), (by first | exact (fun h => (r8 h).below hb2) | exact fun _ => rfl), (by first | exact (fun h => (r9 h).below hb2) | exact fun _ => rfl), (by first | exact r10 | exact fun _ => rfl), (by first | exact (fun _ => rfl) | exact fun _ => rfl), (by first | exact r12 | exact fun _ => rfl), (by first | exact r13 | exact fun _ => rfl), (by first | exact r14 | exact fun _ => rfl), (by first | exact r15 | exact fun _ => rfl), (by first | exact d7_8 | exact fun _ => rfl), (by first | exact d7_9 | exact fun _ => rfl), (by first | exact d8_9 | exact fun _ => rfl)⟩
    | 2, _ =>
      obtain rfl := Option.some.inj ho
      simp [Region.binds] at hd
      go_simp
      exact hK _ _ ⟨v7, v8, v9, v10, v11, _, v13, v14, v15, rfl, hb, r7, r8, r9, r10, r11, fun _ => rfl, r13, r14, r15, d7_8, d7_9, d8_9⟩
    | 3, _ =>
      obtain rfl := Option.some.inj ho
      simp [Region.binds] at hd
      obtain rfl := r12 (by first | exact hd | exact hd.1 | exact hd.2 | exact hd.2.1 | exact hd.2.2)
      go_simp
      go_at_call 19; (with_reducible refine (net_any _ _ _ _ _ h4 h5 h6).mono ?_); rintro e w2 ⟨rfl, hb2⟩
      exact hK _ _ ⟨_, _, _, _, _, _, _, _, _, rfl, below_step hb hb2, (by first | exact (fun h => (r7 h).below hb2) | exact fun _ => rfl), (by first | exact (fun h => (r8 h).below hb2) | exact fun _ => rfl), (by first | exact (fun h => (r9 h).below hb2) | exact fun _ => rfl), (by first | exact r10 | exact fun _ => rfl), (by first | exact r11 | exact fun _ => rfl), (by first | exact r12 | exact fun _ => rfl), (by first | exact (fun _ => rfl) | exact fun _ => rfl), (by first | exact r14 | exact fun _ => rfl), (by first | exact r15 | exact fun _ => rfl), (by first | exact d7_8 | exact fun _ => rfl), (by first | exact d7_9 | exact fun _ => rfl), (by first | exact d8_9 | exact fun _ => rfl)⟩
    | 4, _ =>
      obtain rfl := Option.some.inj ho
      simp [Region.binds] at hd
      go_simp
      exact hK _ _ ⟨v7, v8, v9, v10, v11, v12, v13, _, v15, rfl, hb, r7, r8, r9, r10, r11, r12, r13, fun _ => rfl, r15, d7_8, d7_9, d8_9⟩
    | 5, _ =>
      obtain rfl := Option.some.inj ho
      simp [Region.binds] at hd
      obtain rfl := r14 (by first | exact hd | exact hd.1 | exact hd.2 | exact hd.2.1 | exact hd.2.2)
      go_simp
      go_at_call 19; (with_reducible refine (net_any _ _ _ _ _ h7 h8 h9).mono ?_); rintro e w2 ⟨rfl, hb2⟩
      exact hK _ _ ⟨_, _, _, _, _, _, _, _, _, rfl, below_step hb hb2, (by first | exact (fun h => (r7 h).below hb2) | exact fun _ => rfl), (by first | exact (fun h => (r8 h).below hb2) | exact fun _ => rfl), (by first | exact (fun h => (r9 h).below hb2) | exact fun _ => rfl), (by first | exact r10 | exact fun _ => rfl), (by first | exact r11 | exact fun _ => rfl), (by first | exact r12 | exact fun _ => rfl), (by first | exact r13 | exact fun _ => rfl), (by first | exact r14 | exact fun _ => rfl), (by first | exact (fun _ => rfl) | exact fun _ => rfl), (by first | exact d7_8 | exact fun _ => rfl), (by first | exact d7_9 | exact fun _ => rfl), (by first | exact d8_9 | exact fun _ => rfl)⟩
    | 6, _ =>
      obtain rfl := Option.some.inj ho
      simp [Region.binds] at hd
      go_simp
      exact hK _ _ ⟨_, v8, v9, v10, v11, v12, v13, v14, v15, rfl, hb.alloc hb.size _, (fun _ => Fresh.made _ _ hb.size), (fun h => (r8 h).below (below_alloc _ _)), (fun h => (r9 h).below (below_alloc _ _)), r10, r11, r12, r13, r14, r15, (fun _ h => Ne.symm (r8 h).ne_new), (fun _ h => Ne.symm (r9 h).ne_new), d8_9⟩
    | 7, _ =>
      obtain rfl := Option.some.inj ho
      simp [Region.binds] at hd
      go_simp
      exact hK _ _ ⟨v7, _, v9, v10, v11, v12, v13, v14, v15, rfl, hb.alloc hb.size _, (fun h => (r7 h).below (below_alloc _ _)), (fun _ => Fresh.made _ _ hb.size), (fun h => (r9 h).below (below_alloc _ _)), r10, r11, r12, r13, r14, r15, (fun h _ => (r7 h).ne_new), d7_9, (fun _ h => Ne.symm (r9 h).ne_new)⟩
    | 8, _ =>
      obtain rfl := Option.some.inj ho
      simp [Region.binds] at hd
      go_simp
      exact hK _ _ ⟨v7, v8, _, v10, v11, v12, v13, v14, v15, rfl, hb.alloc hb.size _, (fun h => (r7 h).below (below_alloc _ _)), (fun h => (r8 h).below (below_alloc _ _)), (fun _ => Fresh.made _ _ hb.size), r10, r11, r12, r13, r14, r15, d7_8, (fun h _ => (r7 h).ne_new), (fun h _ => (r8 h).ne_new)⟩
  intro L a w1 hall ⟨v7, v8, v9, v10, v11, v12, v13, v14, v15, ha, hb, r7, r8, r9, r10, r11, r12, r13, r14, r15, d7_8, d7_9, d8_9⟩
  subst ha
  obtain rfl := r10 (hall 0 (by decide))
  clear r10
  obtain rfl := r11 (hall 1 (by decide))
  clear r11
  obtain rfl := r12 (hall 2 (by decide))
  clear r12
  obtain rfl := r13 (hall 3 (by decide))
  clear r13
  obtain rfl := r14 (hall 4 (by decide))
  clear r14
  obtain rfl := r15 (hall 5 (by decide))
  clear r15
  obtain ⟨b7, rfl, g7, l7, c7, z7⟩ := r7 (hall 6 (by decide))
  have c7_0 := c7 0 _ rfl
  have c7_1 := c7 1 _ rfl
  clear c7 r7
  obtain ⟨b8, rfl, g8, l8, c8, z8⟩ := r8 (hall 7 (by decide))
  have c8_0 := c8 0 _ rfl
  have c8_1 := c8 1 _ rfl
  clear c8 r8
  obtain ⟨b9, rfl, g9, l9, c9, z9⟩ := r9 (hall 8 (by decide))
  have c9_0 := c9 0 _ rfl
  have c9_1 := c9 1 _ rfl
  clear c9 r9
  have ne7_8 : b7 ≠ b8 := fun h => d7_8 (hall 6 (by decide)) (hall 7 (by decide)) (by rw [h])
  have ne7_9 : b7 ≠ b9 := fun h => d7_9 (hall 6 (by decide)) (hall 8 (by decide)) (by rw [h])
  have ne8_9 : b8 ≠ b9 := fun h => d8_9 (hall 7 (by decide)) (hall 8 (by decide)) (by rw [h])
  clear d7_8 d7_9 d8_9
  clear hall L
  have hHeld := hb
  refine H_one (i := 9) (by kernel_rfl) rfl (fun K hK => ?_)
  go_simp
  skip
  refine hK.out _ _ (by (try dsimp only); exact (hb.setCell g7 _).setCell g7 _) (fun hHeld => ?_)
  clear hK K
  try simp only [Act.put, List.setIfInBounds_toArray, List.set_cons_zero, List.set_cons_succ]
  obtain ⟨w2, hew2, hxw2, how2, hfw2, hnw2, hkw2⟩ := stored (w := w1) (b := b7) [.int .u32 (pnetA k1 a1 b1 : Int), .int .i64 (pnetB k1 a1 b1 : Int)] (by intro i hi; match i, hi with | 0, _ => exact Option.isSome_iff_exists.2 ⟨_, c7_0⟩ | 1, _ => exact Option.isSome_iff_exists.2 ⟨_, c7_1⟩) 
  have hew2 : ((w1.setCell ⟨b7, 0, none⟩ (.int .u32 (pnetA k1 a1 b1 : Int))).setCell ⟨b7, 1, none⟩ (.int .i64 (pnetB k1 a1 b1 : Int))) = w2 := hew2
  rw [hew2]
  clear hew2
  have c7_0 := hxw2 0 _ rfl
  have c7_1 := hxw2 1 _ rfl
  have z7 := fun o => (hfw2 b7 o).trans (z7 o)
  have l7 : b7 < w2.heap.size := by rw [hnw2]; exact l7
  have c8_0 := (how2 b8 0 (ne7_8.symm)).trans c8_0
  have c8_1 := (how2 b8 1 (ne7_8.symm)).trans c8_1
  have z8 := fun o => (hfw2 b8 o).trans (z8 o)
  have l8 : b8 < w2.heap.size := by rw [hnw2]; exact l8
  have c9_0 := (how2 b9 0 (ne7_9.symm)).trans c9_0
  have c9_1 := (how2 b9 1 (ne7_9.symm)).trans c9_1
  have z9 := fun o => (hfw2 b9 o).trans (z9 o)
  have l9 : b9 < w2.heap.size := by rw [hnw2]; exact l9
  refine H_one (i := 10) (by kernel_rfl) rfl (fun K hK => ?_)
  go_simp
  skip
  refine hK.out _ _ (by (try dsimp only); exact (hkw2 _ _ g7 hb).setCell g8 _ |>.setCell g8 _) (fun hHeld => ?_)
  clear hK K
  try simp only [Act.put, List.setIfInBounds_toArray, List.set_cons_zero, List.set_cons_succ]
  obtain ⟨w3, hew3, hxw3, how3, hfw3, hnw3, hkw3⟩ := stored (w := w2) (b := b8) [.int .u32 (pnetA k2 a2 b2 : Int), .int .i64 (pnetB k2 a2 b2 : Int)] (by intro i hi; match i, hi with | 0, _ => exact Option.isSome_iff_exists.2 ⟨_, c8_0⟩ | 1, _ => exact Option.isSome_iff_exists.2 ⟨_, c8_1⟩) 
  have hew3 : ((w2.setCell ⟨b8, 0, none⟩ (.int .u32 (pnetA k2 a2 b2 : Int))).setCell ⟨b8, 1, none⟩ (.int .i64 (pnetB k2 a2 b2 : Int))) = w3 := hew3
  rw [hew3]
  clear hew3
  have c8_0 := hxw3 0 _ rfl
  have c8_1 := hxw3 1 _ rfl
  have z8 := fun o => (hfw3 b8 o).trans (z8 o)
  have l8 : b8 < w3.heap.size := by rw [hnw3]; exact l8
  have c7_0 := (how3 b7 0 (ne7_8)).trans c7_0
  have c7_1 := (how3 b7 1 (ne7_8)).trans c7_1
  have z7 := fun o => (hfw3 b7 o).trans (z7 o)
  have l7 : b7 < w3.heap.size := by rw [hnw3]; exact l7
  have c9_0 := (how3 b9 0 (ne8_9.symm)).trans c9_0
  have c9_1 := (how3 b9 1 (ne8_9.symm)).trans c9_1
  have z9 := fun o => (hfw3 b9 o).trans (z9 o)
  have l9 : b9 < w3.heap.size := by rw [hnw3]; exact l9
  refine H_one (i := 11) (by kernel_rfl) rfl (fun K hK => ?_)
  go_simp
  skip
  refine hK.out _ _ (by (try dsimp only); exact (hkw3 _ _ g8 (hkw2 _ _ g7 hb)).setCell g9 _ |>.setCell g9 _) (fun hHeld => ?_)
  clear hK K
  try simp only [Act.put, List.setIfInBounds_toArray, List.set_cons_zero, List.set_cons_succ]
  obtain ⟨w4, hew4, hxw4, how4, hfw4, hnw4, hkw4⟩ := stored (w := w3) (b := b9) [.int .u32 (pnetA k3 a3 b3 : Int), .int .i64 (pnetB k3 a3 b3 : Int)] (by intro i hi; match i, hi with | 0, _ => exact Option.isSome_iff_exists.2 ⟨_, c9_0⟩ | 1, _ => exact Option.isSome_iff_exists.2 ⟨_, c9_1⟩) 
  have hew4 : ((w3.setCell ⟨b9, 0, none⟩ (.int .u32 (pnetA k3 a3 b3 : Int))).setCell ⟨b9, 1, none⟩ (.int .i64 (pnetB k3 a3 b3 : Int))) = w4 := hew4
  rw [hew4]
  clear hew4
  have c9_0 := hxw4 0 _ rfl
  have c9_1 := hxw4 1 _ rfl
  have z9 := fun o => (hfw4 b9 o).trans (z9 o)
  have l9 : b9 < w4.heap.size := by rw [hnw4]; exact l9
  have c7_0 := (how4 b7 0 (ne7_9)).trans c7_0
  have c7_1 := (how4 b7 1 (ne7_9)).trans c7_1
  have z7 := fun o => (hfw4 b7 o).trans (z7 o)
  have l7 : b7 < w4.heap.size := by rw [hnw4]; exact l7
  have c8_0 := (how4 b8 0 (ne8_9)).trans c8_0
  have c8_1 := (how4 b8 1 (ne8_9)).trans c8_1
  have z8 := fun o => (hfw4 b8 o).trans (z8 o)
  have l8 : b8 < w4.heap.size := by rw [hnw4]; exact l8
  refine wpAnyH_done (by kernel_rfl) ?_ _
  have hB4 : Below w0.heap.size w0 w4 := hkw4 _ _ g9 (hkw3 _ _ g8 (hkw2 _ _ g7 hb))
  have hW4 := hw.trans (hB4.mono hw.size)
  clear hc0_0 hc0_1 hc0_2 hc0_3 hc1_0 hc1_1 hc1_2 hc1_3 hc2_0 hc2_1 hc2_2 hc2_3 hz0 hz1 hz2 how2 how3 how4 hfw2 hfw3 hfw4 hxw2 hxw3 hxw4 hkw2 hkw3 hkw4
  have va := pnet_valid k1 a1 b1
  have vb := pnet_valid k2 a2 b2
  have vc := pnet_valid k3 a3 b3
  have la := pnetA_lt k1 a1 b1
  have lb := pnetA_lt k2 a2 b2
  have lc := pnetA_lt k3 a3 b3
  generalize pnetA k1 a1 b1 = A1 at *
  generalize pnetA k2 a2 b2 = A2 at *
  generalize pnetA k3 a3 b3 = A3 at *
  generalize (pnetB k1 a1 b1 : Int) = B1 at *
  generalize (pnetB k2 a2 b2 : Int) = B2 at *
  generalize (pnetB k3 a3 b3 : Int) = B3 at *
  have Haa := Lib.hid (pholds_refl va)
  go_wp2_with (fail)
  refine wp_region_held_drew (S := fun w2 => Below w4.heap.size w4 w2) (by kernel_rfl) (by exact (Below.refl _ _).drew) (fun hHeld => ?_)
  (refine H_take (i := 0) rfl (by kernel_rfl) (by kernel_rfl) (by kernel_rfl) (fun _ _ _ _ h => h) hHeld (by rfl) ?_; apply Exists.intro; refine ⟨fun w9 hS9 => ?_, ?_⟩; (focus (have hcS := (bcell hS9).1; go_simp; first | done | with_reducible rfl | exact rfl)); try simp only [Act.put, List.setIfInBounds_toArray, List.set_cons_zero, List.set_cons_succ])
  (refine H_take (i := 1) rfl (by kernel_rfl) (by kernel_rfl) (by kernel_rfl) (fun _ _ _ _ h => h) hHeld (by rfl) ?_; apply Exists.intro; refine ⟨fun w9 hS9 => ?_, ?_⟩; (focus (have hcS := (bcell hS9).1; go_simp; first | done | with_reducible rfl | exact rfl)); try simp only [Act.put, List.setIfInBounds_toArray, List.set_cons_zero, List.set_cons_succ])
  refine H_one (i := 2) (by kernel_rfl) rfl (fun K hK => ?_)
  go_simp
  go_at_call 20; (with_reducible refine (holds_is _ _ _ _ _ _ la la Haa).mono ?_); rintro e w5 ⟨rfl, hbw5⟩
  refine hK.out _ _ (by (try dsimp only); exact below_step hHeld hbw5) (fun hHeld => ?_)
  clear hK K
  try simp only [Act.put, List.setIfInBounds_toArray, List.set_cons_zero, List.set_cons_succ]
  (refine H_take (i := 3) rfl (by kernel_rfl) (by kernel_rfl) (by kernel_rfl) (fun _ _ _ _ h => h) hHeld (by rfl) ?_; apply Exists.intro; refine ⟨fun w9 hS9 => ?_, ?_⟩; (focus (have hcS := (bcell hS9).1; go_simp; first | done | with_reducible rfl | exact rfl)); try simp only [Act.put, List.setIfInBounds_toArray, List.set_cons_zero, List.set_cons_succ])
  (refine H_take (i := 4) rfl (by kernel_rfl) (by kernel_rfl) (by kernel_rfl) (fun _ _ _ _ h => h) hHeld (by rfl) ?_; apply Exists.intro; refine ⟨fun w9 hS9 => ?_, ?_⟩; (focus (have hcS := (bcell hS9).1; go_simp; first | done | with_reducible rfl | exact rfl)); try simp only [Act.put, List.setIfInBounds_toArray, List.set_cons_zero, List.set_cons_succ])
  (refine H_take (i := 5) rfl (by kernel_rfl) (by kernel_rfl) (by kernel_rfl) (fun _ _ _ _ h => h) hHeld (by rfl) ?_; apply Exists.intro; refine ⟨fun w9 hS9 => ?_, ?_⟩; (focus (have hcS := (bcell hS9).1; go_simp; first | done | with_reducible rfl | exact rfl)); try simp only [Act.put, List.setIfInBounds_toArray, List.set_cons_zero, List.set_cons_succ])
  refine H_one (i := 6) (by kernel_rfl) rfl (fun K hK => ?_)
  go_simp
  go_at_call 21; (with_reducible refine (has_five _).mono ?_); rintro e w6 ⟨rfl, hbw6⟩
  refine hK.out _ _ (by (try dsimp only); exact below_step hHeld hbw6) (fun hHeld => ?_)
  clear hK K
  try simp only [Act.put, List.setIfInBounds_toArray, List.set_cons_zero, List.set_cons_succ]
  (refine H_take (i := 7) rfl (by kernel_rfl) (by kernel_rfl) (by kernel_rfl) (fun _ _ _ _ h => h) hHeld (by rfl) ?_; apply Exists.intro; refine ⟨fun w9 hS9 => ?_, ?_⟩; (focus (have hcS := (bcell hS9).1; go_simp; first | done | with_reducible rfl | exact rfl)); try simp only [Act.put, List.setIfInBounds_toArray, List.set_cons_zero, List.set_cons_succ])
  (refine H_take (i := 8) rfl (by kernel_rfl) (by kernel_rfl) (by kernel_rfl) (fun _ _ _ _ h => h) hHeld (by rfl) ?_; apply Exists.intro; refine ⟨fun w9 hS9 => ?_, ?_⟩; (focus (have hcS := (bcell hS9).1; go_simp; first | done | with_reducible rfl | exact rfl)); try simp only [Act.put, List.setIfInBounds_toArray, List.set_cons_zero, List.set_cons_succ])
  (refine H_take (i := 9) rfl (by kernel_rfl) (by kernel_rfl) (by kernel_rfl) (fun _ _ _ _ h => h) hHeld (by rfl) ?_; apply Exists.intro; refine ⟨fun w9 hS9 => ?_, ?_⟩; (focus (have hcS := (bcell hS9).1; go_simp; first | done | with_reducible rfl | exact rfl)); try simp only [Act.put, List.setIfInBounds_toArray, List.set_cons_zero, List.set_cons_succ])
  refine H_one (i := 10) (by kernel_rfl) rfl (fun K hK => ?_)
  go_simp
  go_at_call 22; (with_reducible refine (nets_at 2 _ (by decide)).mono ?_); rintro e w7 ⟨rfl, hbw7, hs7, hn7, hm7⟩
  refine hK.out _ _ (by (try dsimp only); exact below_step hHeld hbw7) (fun hHeld => ?_)
  clear hK K
  try simp only [Act.put, List.setIfInBounds_toArray, List.set_cons_zero, List.set_cons_succ]
  refine H_turn (fun w9 => Below w7.heap.size w7 w9) (fun w9 h9 => below_step hHeld h9) _ _ _ _ ?_
  have hTw7 := hHeld
  have hHeld := Below.refl w7.heap.size w7
  have hn7 : w7.cell? ⟨w6.heap.size, 4, none⟩ = some (.int .u32 (netA 2 : Int)) := hn7
  have hm7 : w7.cell? ⟨w6.heap.size, 5, none⟩ = some (.int .i64 (netB 2 : Int)) := hm7
  (refine H_take (i := 11) rfl (by kernel_rfl) (by kernel_rfl) (by kernel_rfl) (fun _ _ _ _ h => h) hHeld (by rfl) ?_; apply Exists.intro; refine ⟨fun w9 hS9 => ?_, ?_⟩; (focus (have hcS := (bcell hS9).1; go_simp; first | done | with_reducible rfl | exact rfl)); try simp only [Act.put, List.setIfInBounds_toArray, List.set_cons_zero, List.set_cons_succ])
  (refine H_take (i := 12) rfl (by kernel_rfl) (by kernel_rfl) (by kernel_rfl) (fun _ _ _ _ h => h) hHeld (by rfl) ?_; apply Exists.intro; refine ⟨fun w9 hS9 => ?_, ?_⟩; (focus (have hcS := (bcell hS9).1; go_simp; first | done | with_reducible rfl | exact rfl)); try simp only [Act.put, List.setIfInBounds_toArray, List.set_cons_zero, List.set_cons_succ])
  refine H_one (i := 13) (by kernel_rfl) rfl (fun K hK => ?_)
  go_simp
  go_at_call 22; (with_reducible refine (nets_at 1 _ (by decide)).mono ?_); rintro e w8 ⟨rfl, hbw8, hs8, hn8, hm8⟩
  refine hK.out _ _ (by (try dsimp only); exact below_step hHeld hbw8) (fun hHeld => ?_)
  clear hK K
  try simp only [Act.put, List.setIfInBounds_toArray, List.set_cons_zero, List.set_cons_succ]
  refine H_turn (fun w9 => Below w8.heap.size w8 w9) (fun w9 h9 => below_step hHeld h9) _ _ _ _ ?_
  have hTw8 := hHeld
  have hHeld := Below.refl w8.heap.size w8
  have hn8 : w8.cell? ⟨w7.heap.size, 2, none⟩ = some (.int .u32 (netA 1 : Int)) := hn8
  have hm8 : w8.cell? ⟨w7.heap.size, 3, none⟩ = some (.int .i64 (netB 1 : Int)) := hm8
  (refine H_take (i := 14) rfl (by kernel_rfl) (by kernel_rfl) (by kernel_rfl) (fun _ _ _ _ h => h) hHeld (by rfl) ?_; apply Exists.intro; refine ⟨fun w9 hS9 => ?_, ?_⟩; (focus (have hcS := (bcell hS9).1; go_simp; first | done | with_reducible rfl | exact rfl)); try simp only [Act.put, List.setIfInBounds_toArray, List.set_cons_zero, List.set_cons_succ])
  (refine H_take (i := 15) rfl (by kernel_rfl) (by kernel_rfl) (by kernel_rfl) (fun _ _ _ _ h => h) hHeld (by rfl) ?_; apply Exists.intro; refine ⟨fun w9 hS9 => ?_, ?_⟩; (focus (have hcS := (bcell hS9).1; go_simp; first | done | with_reducible rfl | exact rfl)); try simp only [Act.put, List.setIfInBounds_toArray, List.set_cons_zero, List.set_cons_succ])
  have Hn := Lib.hid (show pholds (netA 2) (netB 2) (netA 1) (netB 1) = false by decide)
  refine H_one (i := 16) (by kernel_rfl) rfl (fun K hK => ?_)
  go_simp
  go_at_call 20; (with_reducible refine (holds_is _ _ _ _ false _ (netA_lt 2) (netA_lt 1) Hn).mono ?_); rintro e w9 ⟨rfl, hbw9⟩
  refine hK.out _ _ (by (try dsimp only); exact below_step hHeld hbw9) (fun hHeld => ?_)
  clear hK K
  try simp only [Act.put, List.setIfInBounds_toArray, List.set_cons_zero, List.set_cons_succ]
  (refine H_take (i := 17) rfl (by kernel_rfl) (by kernel_rfl) (by kernel_rfl) (fun _ _ _ _ h => h) hHeld (by rfl) ?_; apply Exists.intro; refine ⟨fun w9 hS9 => ?_, ?_⟩; (focus (have hcS := (bcell hS9).1; go_simp; first | done | with_reducible rfl | exact rfl)); try simp only [Act.put, List.setIfInBounds_toArray, List.set_cons_zero, List.set_cons_succ])
  refine wpAnyH_done (by kernel_rfl) ?_ _
  have hcx := (bcell (below_step hTw7 (below_step hTw8 hHeld))).1
  have hB := below_step hTw7 (below_step hTw8 hHeld)
  have hWe : ∀ w', Below w4.heap.size w4 w' → Below w.heap.size w w' := fun w' h => hW4.trans (h.mono hW4.size)
  clear hTw7 hTw8 hHeld
  cases hab : pholds A1 B1 A2 B2
  · have Hab := Lib.hid hab
    cases hba : pholds A2 B2 A1 B1
    · have Hba := Lib.hid hba
      have Hh := Lib.hid (pholds_some vb hab hba)
      clear hab hba
      go_wp2_with (first | (go_at_call 20; (with_reducible refine (holds_is A1 B1 A2 B2 _ _ la lb Hab).mono ?_); rintro e w1 ⟨rfl, hb⟩; have hB := below_step hB hb; have hc := (bcell hB).1) | (go_at_call 20; (with_reducible refine (holds_is A2 B2 A3 B3 _ _ lb lc Hbc).mono ?_); rintro e w1 ⟨rfl, hb⟩; have hB := below_step hB hb; have hc := (bcell hB).1) | (go_at_call 20; (with_reducible refine (holds_is A1 B1 A3 B3 _ _ la lc Hac).mono ?_); rintro e w1 ⟨rfl, hb⟩; have hB := below_step hB hb; have hc := (bcell hB).1) | (go_at_call 20; (with_reducible refine (holds_is A2 B2 A1 B1 _ _ lb la Hba).mono ?_); rintro e w1 ⟨rfl, hb⟩; have hB := below_step hB hb; have hc := (bcell hB).1) | (go_at_call 21; (with_reducible refine (has_is A1 B1 A2 _ _ la lb Hh).mono ?_); rintro e w1 ⟨rfl, hb⟩; have hB := below_step hB hb; have hc := (bcell hB).1))
      go_ret
      exact ⟨rfl, hWe _ hB⟩
    · have Hba := Lib.hid hba
      clear hab hba
      go_wp2_with (first | (go_at_call 20; (with_reducible refine (holds_is A1 B1 A2 B2 _ _ la lb Hab).mono ?_); rintro e w1 ⟨rfl, hb⟩; have hB := below_step hB hb; have hc := (bcell hB).1) | (go_at_call 20; (with_reducible refine (holds_is A2 B2 A3 B3 _ _ lb lc Hbc).mono ?_); rintro e w1 ⟨rfl, hb⟩; have hB := below_step hB hb; have hc := (bcell hB).1) | (go_at_call 20; (with_reducible refine (holds_is A1 B1 A3 B3 _ _ la lc Hac).mono ?_); rintro e w1 ⟨rfl, hb⟩; have hB := below_step hB hb; have hc := (bcell hB).1) | (go_at_call 20; (with_reducible refine (holds_is A2 B2 A1 B1 _ _ lb la Hba).mono ?_); rintro e w1 ⟨rfl, hb⟩; have hB := below_step hB hb; have hc := (bcell hB).1) | (go_at_call 21; (with_reducible refine (has_is A1 B1 A2 _ _ la lb Hh).mono ?_); rintro e w1 ⟨rfl, hb⟩; have hB := below_step hB hb; have hc := (bcell hB).1))
      go_ret
      exact ⟨rfl, hWe _ hB⟩
  · have Hab := Lib.hid hab
    cases hba : pholds A2 B2 A1 B1
    · have Hba := Lib.hid hba
      cases hbc : pholds A2 B2 A3 B3
      · have Hbc := Lib.hid hbc
        clear hab hba hbc
        go_wp2_with (first | (go_at_call 20; (with_reducible refine (holds_is A1 B1 A2 B2 _ _ la lb Hab).mono ?_); rintro e w1 ⟨rfl, hb⟩; have hB := below_step hB hb; have hc := (bcell hB).1) | (go_at_call 20; (with_reducible refine (holds_is A2 B2 A3 B3 _ _ lb lc Hbc).mono ?_); rintro e w1 ⟨rfl, hb⟩; have hB := below_step hB hb; have hc := (bcell hB).1) | (go_at_call 20; (with_reducible refine (holds_is A1 B1 A3 B3 _ _ la lc Hac).mono ?_); rintro e w1 ⟨rfl, hb⟩; have hB := below_step hB hb; have hc := (bcell hB).1) | (go_at_call 20; (with_reducible refine (holds_is A2 B2 A1 B1 _ _ lb la Hba).mono ?_); rintro e w1 ⟨rfl, hb⟩; have hB := below_step hB hb; have hc := (bcell hB).1) | (go_at_call 21; (with_reducible refine (has_is A1 B1 A2 _ _ la lb Hh).mono ?_); rintro e w1 ⟨rfl, hb⟩; have hB := below_step hB hb; have hc := (bcell hB).1))
        go_ret
        exact ⟨rfl, hWe _ hB⟩
      · have Hbc := Lib.hid hbc
        have Hac := Lib.hid (pholds_trans hab hbc)
        clear hab hba hbc
        go_wp2_with (first | (go_at_call 20; (with_reducible refine (holds_is A1 B1 A2 B2 _ _ la lb Hab).mono ?_); rintro e w1 ⟨rfl, hb⟩; have hB := below_step hB hb; have hc := (bcell hB).1) | (go_at_call 20; (with_reducible refine (holds_is A2 B2 A3 B3 _ _ lb lc Hbc).mono ?_); rintro e w1 ⟨rfl, hb⟩; have hB := below_step hB hb; have hc := (bcell hB).1) | (go_at_call 20; (with_reducible refine (holds_is A1 B1 A3 B3 _ _ la lc Hac).mono ?_); rintro e w1 ⟨rfl, hb⟩; have hB := below_step hB hb; have hc := (bcell hB).1) | (go_at_call 20; (with_reducible refine (holds_is A2 B2 A1 B1 _ _ lb la Hba).mono ?_); rintro e w1 ⟨rfl, hb⟩; have hB := below_step hB hb; have hc := (bcell hB).1) | (go_at_call 21; (with_reducible refine (has_is A1 B1 A2 _ _ la lb Hh).mono ?_); rintro e w1 ⟨rfl, hb⟩; have hB := below_step hB hb; have hc := (bcell hB).1))
        go_ret
        exact ⟨rfl, hWe _ hB⟩
    · have Hba := Lib.hid hba
      obtain ⟨e1, e2⟩ := pholds_antisymm hab hba
      subst e1; subst e2
      clear lb
      have lb := la
      cases hbc : pholds A1 B1 A3 B3
      · have Hbc := Lib.hid hbc
        clear hab hba hbc
        go_wp2_with (first | (go_at_call 20; (with_reducible refine (holds_is _ _ _ _ _ _ la lb Hab).mono ?_); rintro e w1 ⟨rfl, hb⟩; have hB := below_step hB hb; have hc := (bcell hB).1) | (go_at_call 20; (with_reducible refine (holds_is _ _ _ _ _ _ la lc Hbc).mono ?_); rintro e w1 ⟨rfl, hb⟩; have hB := below_step hB hb; have hc := (bcell hB).1))
        go_ret
        exact ⟨rfl, hWe _ hB⟩
      · have Hbc := Lib.hid hbc
        have Hac := Hbc
        clear hab hba hbc
        go_wp2_with (first | (go_at_call 20; (with_reducible refine (holds_is _ _ _ _ _ _ la lb Hab).mono ?_); rintro e w1 ⟨rfl, hb⟩; have hB := below_step hB hb; have hc := (bcell hB).1) | (go_at_call 20; (with_reducible refine (holds_is _ _ _ _ _ _ la lc Hbc).mono ?_); rintro e w1 ⟨rfl, hb⟩; have hB := below_step hB hb; have hc := (bcell hB).1))
        go_ret
        exact ⟨rfl, hWe _ hB⟩
end Go.Proofs.Ytnopdnclefopbaa
