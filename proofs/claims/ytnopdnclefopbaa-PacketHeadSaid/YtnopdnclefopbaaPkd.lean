/- Packet of raw things, SamePacket: their contracts. -/
import Derived.Test.YtnopdnclefopbaaPkc
import Derived.Test.YtnopdnclefopbaaBytesN
import Derived.IntWalk
namespace Go.Proofs.Ytnopdnclefopbaa
open Go.RowKit
set_option linter.unusedVariables false

theorem run_min40 (wx : World) (x m : Nat) (h : Hid (min (x : Int) 40 = (m : Int))) : Sem.run Try.prog (Builtin.min_ #[3, 3] 3 #[.int .i64 (x : Int), .int .i64 40]) wx = .ok (.int .i64 (m : Int)) wx := by
  have e : (if (40 : Int) < (x : Int) then (40 : Int) else (x : Int)) = (m : Int) := by have := h.out; split <;> omega
  rw [← e]; rfl
theorem picked_below (n m : Int) (r : Nat) (w : World) (H : Hid (ppick n m = (r : Int))) (h0 : -9223372036854775808 ≤ n) (h1 : n ≤ 9223372036854775807) (hm : 0 < m) (hm1 : m ≤ 9223372036854775807) :
    Calls Try.prog 24 #[.int .i64 n, .int .i64 m] w fun e w' => e = .returned (.int .i64 (r : Int)) ∧ Below w.heap.size w w' :=
  (picked_is n m _ w H h0 h1 hm hm1).mono fun _ _ ⟨h, e⟩ => ⟨h, below_of_eq e⟩
theorem conv_cut (s : ByteArray) (m : Nat) (hm : m = min s.size 40) (hs : s.size ≤ maxLen) : Hid (∀ w : World, ∃ v w', (convert 9 33 (.string (s.extract 0 m))).run Try.prog w = .ok v w' ∧ NBytes w.heap.size w' v (s.data.toList.take 40) ∧ Below w.heap.size w w') := Lib.hid fun w => by
  have e := extract_take s m (by omega)
  have e2 : s.data.toList.take m = s.data.toList.take 40 := by
    rw [hm]
    by_cases h : s.size ≤ 40
    · rw [Nat.min_eq_left h, List.take_of_length_le (show s.data.toList.length ≤ s.size from Nat.le_refl _), List.take_of_length_le (show s.data.toList.length ≤ 40 from h)]
    · rw [Nat.min_eq_right (by omega)]
  have hz : (s.extract 0 m).size ≤ maxLen := by rw [ByteArray.size_extract]; omega
  obtain ⟨v, w', h1, h2, h3⟩ := conv_bytes w (s.extract 0 m) hz
  rw [e, e2] at h2
  exact ⟨v, w', h1, h2, h3⟩
/-- A packet whose data are new bytes. -/
def PkNew (w : World) (src dst : Nat) (d : List UInt8) (e : Ending) (w' : World) : Prop :=
  ∃ v, e = .returned (.agg #[.int .u32 (src : Int), .int .u32 (dst : Int), v]) ∧ NBytes w.heap.size w' v d ∧ Below w.heap.size w w'
set_option maxRecDepth 100000 in
set_option maxHeartbeats 1600000 in
theorem packet_0 (k a b : Int) (s : ByteArray) (p q : Nat) (w : World) (h2 : IntOk a) (h3 : IntOk b) (hs : s.size ≤ maxLen) (P : Hid (ppick a 65536 = (p : Int))) (Q : Hid (ppick b 65536 = (q : Int))) (hp : p < 65536) (hq : q < 65536) :
    Calls Try.prog 30 #[.int .i64 0, rawV k a b s] w (PkNew w (167837696 + p) (167903232 + q) (s.data.toList.take 40)) := by
  obtain ⟨m, hm⟩ : ∃ m : Nat, m = min s.size 40 := ⟨_, rfl⟩
  have hms : m ≤ s.size := by omega
  have hmi := Lib.hid (show min (s.size : Int) 40 = (m : Int) by omega)
  have hcv := conv_cut s m hm hs
  have hmin : ∀ wx : World, Sem.run Try.prog (Builtin.min_ #[3, 3] 3 #[.int .i64 (s.size : Int), .int .i64 40]) wx = .ok (.int .i64 (m : Int)) wx := fun wx => run_min40 wx s.size m hmi
  clear hm
  have u1 : IntKind.u32.wrap (p : Int) = p := IntWalk.u32_in _ (by omega)
  have u2 : IntKind.u32.wrap (q : Int) = q := IntWalk.u32_in _ (by omega)
  have u3 : IntKind.u32.wrap (167837696 + (p : Int)) = 167837696 + p := IntWalk.u32_in _ (by omega)
  have u4 : IntKind.u32.wrap (167903232 + (q : Int)) = 167903232 + q := IntWalk.u32_in _ (by omega)
  have u5 : IntKind.u32.wrap (167837696 + (q : Int)) = 167837696 + q := IntWalk.u32_in _ (by omega)
  have u6 : IntKind.u32.wrap (167903232 + (p : Int)) = 167903232 + p := IntWalk.u32_in _ (by omega)
  go_enter Try.func30, Try.ntmps30
  go_wp2_with (fail)
  have hw : Below w.heap.size w ((w.alloc (Obj.cells #[.int .i64 k, .int .i64 a, .int .i64 b, .string s] 23)).alloc (Obj.cells #[.int .u32 0, .int .u32 0, .slice none 0 0] 48)) := ((((Below.refl w.heap.size w).alloc (by first | exact Nat.le_refl _ | (simp; done) | (simp; omega)) _)).alloc (by first | exact Nat.le_refl _ | (simp; done) | (simp; omega)) _)
  have hc0_0 : ((w.alloc (Obj.cells #[.int .i64 k, .int .i64 a, .int .i64 b, .string s] 23)).alloc (Obj.cells #[.int .u32 0, .int .u32 0, .slice none 0 0] 48)).cell? ⟨w.heap.size, 0, none⟩ = some (.int .i64 k) := cell_up (cell_at (by first | rfl | simp) 0 rfl)
  have hc0_1 : ((w.alloc (Obj.cells #[.int .i64 k, .int .i64 a, .int .i64 b, .string s] 23)).alloc (Obj.cells #[.int .u32 0, .int .u32 0, .slice none 0 0] 48)).cell? ⟨w.heap.size, 1, none⟩ = some (.int .i64 a) := cell_up (cell_at (by first | rfl | simp) 1 rfl)
  have hc0_2 : ((w.alloc (Obj.cells #[.int .i64 k, .int .i64 a, .int .i64 b, .string s] 23)).alloc (Obj.cells #[.int .u32 0, .int .u32 0, .slice none 0 0] 48)).cell? ⟨w.heap.size, 2, none⟩ = some (.int .i64 b) := cell_up (cell_at (by first | rfl | simp) 2 rfl)
  have hc0_3 : ((w.alloc (Obj.cells #[.int .i64 k, .int .i64 a, .int .i64 b, .string s] 23)).alloc (Obj.cells #[.int .u32 0, .int .u32 0, .slice none 0 0] 48)).cell? ⟨w.heap.size, 3, none⟩ = some (.string s) := cell_up (cell_at (by first | rfl | simp) 3 rfl)
  have hc1_0 : ((w.alloc (Obj.cells #[.int .i64 k, .int .i64 a, .int .i64 b, .string s] 23)).alloc (Obj.cells #[.int .u32 0, .int .u32 0, .slice none 0 0] 48)).cell? ⟨w.heap.size + 1, 0, none⟩ = some (.int .u32 0) := cell_at (by first | rfl | simp) 0 rfl
  have hc1_1 : ((w.alloc (Obj.cells #[.int .i64 k, .int .i64 a, .int .i64 b, .string s] 23)).alloc (Obj.cells #[.int .u32 0, .int .u32 0, .slice none 0 0] 48)).cell? ⟨w.heap.size + 1, 1, none⟩ = some (.int .u32 0) := cell_at (by first | rfl | simp) 1 rfl
  have hc1_2 : ((w.alloc (Obj.cells #[.int .i64 k, .int .i64 a, .int .i64 b, .string s] 23)).alloc (Obj.cells #[.int .u32 0, .int .u32 0, .slice none 0 0] 48)).cell? ⟨w.heap.size + 1, 2, none⟩ = some (.slice none 0 0) := cell_at (by first | rfl | simp) 2 rfl
  have hs0 : w.heap.size < ((w.alloc (Obj.cells #[.int .i64 k, .int .i64 a, .int .i64 b, .string s] 23)).alloc (Obj.cells #[.int .u32 0, .int .u32 0, .slice none 0 0] 48)).heap.size := by simp <;> omega
  have hs1 : w.heap.size + 1 < ((w.alloc (Obj.cells #[.int .i64 k, .int .i64 a, .int .i64 b, .string s] 23)).alloc (Obj.cells #[.int .u32 0, .int .u32 0, .slice none 0 0] 48)).heap.size := by simp <;> omega
  have hz0 : ∀ o, ((w.alloc (Obj.cells #[.int .i64 k, .int .i64 a, .int .i64 b, .string s] 23)).alloc (Obj.cells #[.int .u32 0, .int .u32 0, .slice none 0 0] 48)).frozen? ⟨w.heap.size, o, none⟩ = false := fun o => froz_up (by first | (simp; done) | (simp; omega)) (froz_at (by first | rfl | simp) o)
  have hz1 : ∀ o, ((w.alloc (Obj.cells #[.int .i64 k, .int .i64 a, .int .i64 b, .string s] 23)).alloc (Obj.cells #[.int .u32 0, .int .u32 0, .slice none 0 0] 48)).frozen? ⟨w.heap.size + 1, o, none⟩ = false := fun o => froz_at (by first | rfl | simp) o
  generalize ((w.alloc (Obj.cells #[.int .i64 k, .int .i64 a, .int .i64 b, .string s] 23)).alloc (Obj.cells #[.int .u32 0, .int .u32 0, .slice none 0 0] 48)) = w0 at *
  have hB : Below w0.heap.size w0 w0 := Below.refl _ _
  go_wp2_with (fail)
  refine wp_region_float (m := 21) (S := fun wS => Below (w.heap.size + 1) w0 wS) (by kernel_rfl) (by kernel_rfl) (by kernel_rfl) (fun L ac w1 => ∃ v11 v12 v13 v14 v15 v16 v17 v18 v19 v20 v21 v22 v23 v24 v25 v26 v27 v28 v29 v30 v31, ac = { tmps := #[.int .i64 0, rawV k a b s, undef, .pointer (some ⟨w.heap.size, 0, none⟩), .pointer (some ⟨w.heap.size + 1, 0, none⟩), .int .u32 167837696, .int .u32 167903232, .int .i64 0, .bool false, undef, undef, v11, v12, v13, v14, v15, v16, v17, v18, v19, v20, v21, v22, v23, v24, v25, v26, v27, v28, v29, v30, v31], defers := [] } ∧ Below w0.heap.size w0 w1 ∧ (L 0 = true → v11 = .int .u32 167837696) ∧ (L 1 = true → v12 = .pointer (some ⟨w.heap.size, 1, none⟩)) ∧ (L 2 = true → v13 = .int .i64 a) ∧ (L 3 = true → v14 = .int .i64 (p : Int)) ∧ (L 4 = true → v15 = .int .u32 (p : Int)) ∧ (L 5 = true → v16 = .int .u32 (167837696 + (p : Int))) ∧ (L 6 = true → v17 = .int .u32 167903232) ∧ (L 7 = true → v18 = .pointer (some ⟨w.heap.size, 2, none⟩)) ∧ (L 8 = true → v19 = .int .i64 b) ∧ (L 9 = true → v20 = .int .i64 (q : Int)) ∧ (L 10 = true → v21 = .int .u32 (q : Int)) ∧ (L 11 = true → v22 = .int .u32 (167903232 + (q : Int))) ∧ (L 12 = true → v23 = .pointer (some ⟨w.heap.size, 3, none⟩)) ∧ (L 13 = true → v24 = .string s) ∧ (L 14 = true → v25 = .pointer (some ⟨w.heap.size, 3, none⟩)) ∧ (L 15 = true → v26 = .string s) ∧ (L 16 = true → v27 = .int .i64 (s.size : Int)) ∧ (L 17 = true → v28 = .int .i64 (m : Int)) ∧ (L 18 = true → v29 = .string (s.extract 0 m)) ∧ (L 19 = true → NBytes w0.heap.size w1 v30 (s.data.toList.take 40)) ∧ (L 20 = true → v31 = .agg #[.int .u32 (167837696 + (p : Int)), .int .u32 (167903232 + (q : Int)), v30]) ∧ (L 20 = true → L 19 = true)) ?_ ?_ ?_
  · intro L hL
    refine ⟨undef, undef, undef, undef, undef, undef, undef, undef, undef, undef, undef, undef, undef, undef, undef, undef, undef, undef, undef, undef, undef, rfl, hB.drew, ?_⟩
    simp [hL]
  · intro L ac w1 i o K hi ho hLi hd ⟨v11, v12, v13, v14, v15, v16, v17, v18, v19, v20, v21, v22, v23, v24, v25, v26, v27, v28, v29, v30, v31, ha, hb, r11, r12, r13, r14, r15, r16, r17, r18, r19, r20, r21, r22, r23, r24, r25, r26, r27, r28, r29, r30, r31, k31_30⟩ hK
    subst ha
    have hc := (bcell hb).1
    by_cases hie : i = 0
    · subst hie
      obtain rfl := Option.some.inj ho
      simp [Region.binds] at hd
      try (have hdH := Lib.hid hd; clear hd)
      go_simp
      exact hK _ _ ⟨_, v12, v13, v14, v15, v16, v17, v18, v19, v20, v21, v22, v23, v24, v25, v26, v27, v28, v29, v30, v31, rfl, hb, (fun _ => rfl), (r12), (r13), (r14), (r15), (r16), (r17), (r18), (r19), (r20), (r21), (r22), (r23), (r24), (r25), (r26), (r27), (r28), (r29), (r30), (r31), (k31_30)⟩
    by_cases hie : i = 1
    · subst hie
      obtain rfl := Option.some.inj ho
      simp [Region.binds] at hd
      try (have hdH := Lib.hid hd; clear hd)
      go_simp
      exact hK _ _ ⟨v11, _, v13, v14, v15, v16, v17, v18, v19, v20, v21, v22, v23, v24, v25, v26, v27, v28, v29, v30, v31, rfl, hb, (r11), (fun _ => rfl), (r13), (r14), (r15), (r16), (r17), (r18), (r19), (r20), (r21), (r22), (r23), (r24), (r25), (r26), (r27), (r28), (r29), (r30), (r31), (k31_30)⟩
    by_cases hie : i = 2
    · subst hie
      obtain rfl := Option.some.inj ho
      simp [Region.binds] at hd
      try (have hdH := Lib.hid hd; clear hd)
      obtain rfl := r12 (by first | exact hdH.out | exact hdH.out.1 | exact hdH.out.2 | exact hdH.out.2.1 | exact hdH.out.2.2 | exact hdH.out.2.2.1 | exact hdH.out.2.2.2 | exact hdH.out.2.2.2.1 | exact hdH.out.2.2.2.2 | exact hdH.out.2.2.2.2.1 | exact hdH.out.2.2.2.2.2 | exact hdH.out.2.2.2.2.2.1 | exact hdH.out.2.2.2.2.2.2 | exact hdH.out.2.2.2.2.2.2.1 | exact hdH.out.2.2.2.2.2.2.2 | exact hdH.out.2.2.2.2.2.2.2.1 | exact hdH.out.2.2.2.2.2.2.2.2 | exact hdH.out.2.2.2.2.2.2.2.2.1 | exact hdH.out.2.2.2.2.2.2.2.2.2 | exact hdH.out.2.2.2.2.2.2.2.2.2.1 | exact hdH.out.2.2.2.2.2.2.2.2.2.2 | exact hdH.out.2.2.2.2.2.2.2.2.2.2.1 | exact hdH.out.2.2.2.2.2.2.2.2.2.2.2 | exact hdH.out.2.2.2.2.2.2.2.2.2.2.2.1 | exact hdH.out.2.2.2.2.2.2.2.2.2.2.2.2 | exact hdH.out.2.2.2.2.2.2.2.2.2.2.2.2.1 | exact hdH.out.2.2.2.2.2.2.2.2.2.2.2.2.2 | exact hdH.out.2.2.2.2.2.2.2.2.2.2.2.2.2.1 | exact hdH.out.2.2.2.2.2.2.2.2.2.2.2.2.2.2 | exact hdH.out.2.2.2.2.2.2.2.2.2.2.2.2.2.2.1 | exact hdH.out.2.2.2.2.2.2.2.2.2.2.2.2.2.2.2 | exact hdH.out.2.2.2.2.2.2.2.2.2.2.2.2.2.2.2.1 | exact hdH.out.2.2.2.2.2.2.2.2.2.2.2.2.2.2.2.2)
      go_simp
      exact hK _ _ ⟨v11, _, _, v14, v15, v16, v17, v18, v19, v20, v21, v22, v23, v24, v25, v26, v27, v28, v29, v30, v31, rfl, hb, (r11), (fun _ => rfl), (fun _ => rfl), (r14), (r15), (r16), (r17), (r18), (r19), (r20), (r21), (r22), (r23), (r24), (r25), (r26), (r27), (r28), (r29), (r30), (r31), (k31_30)⟩
    by_cases hie : i = 3
    · subst hie
      obtain rfl := Option.some.inj ho
      simp [Region.binds] at hd
      try (have hdH := Lib.hid hd; clear hd)
      obtain rfl := r13 (by first | exact hdH.out | exact hdH.out.1 | exact hdH.out.2 | exact hdH.out.2.1 | exact hdH.out.2.2 | exact hdH.out.2.2.1 | exact hdH.out.2.2.2 | exact hdH.out.2.2.2.1 | exact hdH.out.2.2.2.2 | exact hdH.out.2.2.2.2.1 | exact hdH.out.2.2.2.2.2 | exact hdH.out.2.2.2.2.2.1 | exact hdH.out.2.2.2.2.2.2 | exact hdH.out.2.2.2.2.2.2.1 | exact hdH.out.2.2.2.2.2.2.2 | exact hdH.out.2.2.2.2.2.2.2.1 | exact hdH.out.2.2.2.2.2.2.2.2 | exact hdH.out.2.2.2.2.2.2.2.2.1 | exact hdH.out.2.2.2.2.2.2.2.2.2 | exact hdH.out.2.2.2.2.2.2.2.2.2.1 | exact hdH.out.2.2.2.2.2.2.2.2.2.2 | exact hdH.out.2.2.2.2.2.2.2.2.2.2.1 | exact hdH.out.2.2.2.2.2.2.2.2.2.2.2 | exact hdH.out.2.2.2.2.2.2.2.2.2.2.2.1 | exact hdH.out.2.2.2.2.2.2.2.2.2.2.2.2 | exact hdH.out.2.2.2.2.2.2.2.2.2.2.2.2.1 | exact hdH.out.2.2.2.2.2.2.2.2.2.2.2.2.2 | exact hdH.out.2.2.2.2.2.2.2.2.2.2.2.2.2.1 | exact hdH.out.2.2.2.2.2.2.2.2.2.2.2.2.2.2 | exact hdH.out.2.2.2.2.2.2.2.2.2.2.2.2.2.2.1 | exact hdH.out.2.2.2.2.2.2.2.2.2.2.2.2.2.2.2 | exact hdH.out.2.2.2.2.2.2.2.2.2.2.2.2.2.2.2.1 | exact hdH.out.2.2.2.2.2.2.2.2.2.2.2.2.2.2.2.2)
      go_simp
      go_at_call 24; (with_reducible refine (((fun h => h) (picked_below a 65536 p _ P h2.1 h2.2 (by decide) (by decide)))).mono ?_); rintro e w2 ⟨rfl, hb2⟩
      exact hK _ _ ⟨v11, v12, _, _, v15, v16, v17, v18, v19, v20, v21, v22, v23, v24, v25, v26, v27, v28, v29, v30, v31, rfl, below_step hb hb2, (r11), (r12), (fun _ => rfl), (fun _ => rfl), (r15), (r16), (r17), (r18), (r19), (r20), (r21), (r22), (r23), (r24), (r25), (r26), (r27), (r28), (r29), (fun h => NBytes.below (r30 h) hb2), (r31), (k31_30)⟩
    by_cases hie : i = 4
    · subst hie
      obtain rfl := Option.some.inj ho
      simp [Region.binds] at hd
      try (have hdH := Lib.hid hd; clear hd)
      obtain rfl := r14 (by first | exact hdH.out | exact hdH.out.1 | exact hdH.out.2 | exact hdH.out.2.1 | exact hdH.out.2.2 | exact hdH.out.2.2.1 | exact hdH.out.2.2.2 | exact hdH.out.2.2.2.1 | exact hdH.out.2.2.2.2 | exact hdH.out.2.2.2.2.1 | exact hdH.out.2.2.2.2.2 | exact hdH.out.2.2.2.2.2.1 | exact hdH.out.2.2.2.2.2.2 | exact hdH.out.2.2.2.2.2.2.1 | exact hdH.out.2.2.2.2.2.2.2 | exact hdH.out.2.2.2.2.2.2.2.1 | exact hdH.out.2.2.2.2.2.2.2.2 | exact hdH.out.2.2.2.2.2.2.2.2.1 | exact hdH.out.2.2.2.2.2.2.2.2.2 | exact hdH.out.2.2.2.2.2.2.2.2.2.1 | exact hdH.out.2.2.2.2.2.2.2.2.2.2 | exact hdH.out.2.2.2.2.2.2.2.2.2.2.1 | exact hdH.out.2.2.2.2.2.2.2.2.2.2.2 | exact hdH.out.2.2.2.2.2.2.2.2.2.2.2.1 | exact hdH.out.2.2.2.2.2.2.2.2.2.2.2.2 | exact hdH.out.2.2.2.2.2.2.2.2.2.2.2.2.1 | exact hdH.out.2.2.2.2.2.2.2.2.2.2.2.2.2 | exact hdH.out.2.2.2.2.2.2.2.2.2.2.2.2.2.1 | exact hdH.out.2.2.2.2.2.2.2.2.2.2.2.2.2.2 | exact hdH.out.2.2.2.2.2.2.2.2.2.2.2.2.2.2.1 | exact hdH.out.2.2.2.2.2.2.2.2.2.2.2.2.2.2.2 | exact hdH.out.2.2.2.2.2.2.2.2.2.2.2.2.2.2.2.1 | exact hdH.out.2.2.2.2.2.2.2.2.2.2.2.2.2.2.2.2)
      go_simp
      exact hK _ _ ⟨v11, v12, v13, _, _, v16, v17, v18, v19, v20, v21, v22, v23, v24, v25, v26, v27, v28, v29, v30, v31, rfl, hb, (r11), (r12), (r13), (fun _ => rfl), (fun _ => rfl), (r16), (r17), (r18), (r19), (r20), (r21), (r22), (r23), (r24), (r25), (r26), (r27), (r28), (r29), (r30), (r31), (k31_30)⟩
    by_cases hie : i = 5
    · subst hie
      obtain rfl := Option.some.inj ho
      simp [Region.binds] at hd
      try (have hdH := Lib.hid hd; clear hd)
      obtain rfl := r11 (by first | exact hdH.out | exact hdH.out.1 | exact hdH.out.2 | exact hdH.out.2.1 | exact hdH.out.2.2 | exact hdH.out.2.2.1 | exact hdH.out.2.2.2 | exact hdH.out.2.2.2.1 | exact hdH.out.2.2.2.2 | exact hdH.out.2.2.2.2.1 | exact hdH.out.2.2.2.2.2 | exact hdH.out.2.2.2.2.2.1 | exact hdH.out.2.2.2.2.2.2 | exact hdH.out.2.2.2.2.2.2.1 | exact hdH.out.2.2.2.2.2.2.2 | exact hdH.out.2.2.2.2.2.2.2.1 | exact hdH.out.2.2.2.2.2.2.2.2 | exact hdH.out.2.2.2.2.2.2.2.2.1 | exact hdH.out.2.2.2.2.2.2.2.2.2 | exact hdH.out.2.2.2.2.2.2.2.2.2.1 | exact hdH.out.2.2.2.2.2.2.2.2.2.2 | exact hdH.out.2.2.2.2.2.2.2.2.2.2.1 | exact hdH.out.2.2.2.2.2.2.2.2.2.2.2 | exact hdH.out.2.2.2.2.2.2.2.2.2.2.2.1 | exact hdH.out.2.2.2.2.2.2.2.2.2.2.2.2 | exact hdH.out.2.2.2.2.2.2.2.2.2.2.2.2.1 | exact hdH.out.2.2.2.2.2.2.2.2.2.2.2.2.2 | exact hdH.out.2.2.2.2.2.2.2.2.2.2.2.2.2.1 | exact hdH.out.2.2.2.2.2.2.2.2.2.2.2.2.2.2 | exact hdH.out.2.2.2.2.2.2.2.2.2.2.2.2.2.2.1 | exact hdH.out.2.2.2.2.2.2.2.2.2.2.2.2.2.2.2 | exact hdH.out.2.2.2.2.2.2.2.2.2.2.2.2.2.2.2.1 | exact hdH.out.2.2.2.2.2.2.2.2.2.2.2.2.2.2.2.2)
      obtain rfl := r15 (by first | exact hdH.out | exact hdH.out.1 | exact hdH.out.2 | exact hdH.out.2.1 | exact hdH.out.2.2 | exact hdH.out.2.2.1 | exact hdH.out.2.2.2 | exact hdH.out.2.2.2.1 | exact hdH.out.2.2.2.2 | exact hdH.out.2.2.2.2.1 | exact hdH.out.2.2.2.2.2 | exact hdH.out.2.2.2.2.2.1 | exact hdH.out.2.2.2.2.2.2 | exact hdH.out.2.2.2.2.2.2.1 | exact hdH.out.2.2.2.2.2.2.2 | exact hdH.out.2.2.2.2.2.2.2.1 | exact hdH.out.2.2.2.2.2.2.2.2 | exact hdH.out.2.2.2.2.2.2.2.2.1 | exact hdH.out.2.2.2.2.2.2.2.2.2 | exact hdH.out.2.2.2.2.2.2.2.2.2.1 | exact hdH.out.2.2.2.2.2.2.2.2.2.2 | exact hdH.out.2.2.2.2.2.2.2.2.2.2.1 | exact hdH.out.2.2.2.2.2.2.2.2.2.2.2 | exact hdH.out.2.2.2.2.2.2.2.2.2.2.2.1 | exact hdH.out.2.2.2.2.2.2.2.2.2.2.2.2 | exact hdH.out.2.2.2.2.2.2.2.2.2.2.2.2.1 | exact hdH.out.2.2.2.2.2.2.2.2.2.2.2.2.2 | exact hdH.out.2.2.2.2.2.2.2.2.2.2.2.2.2.1 | exact hdH.out.2.2.2.2.2.2.2.2.2.2.2.2.2.2 | exact hdH.out.2.2.2.2.2.2.2.2.2.2.2.2.2.2.1 | exact hdH.out.2.2.2.2.2.2.2.2.2.2.2.2.2.2.2 | exact hdH.out.2.2.2.2.2.2.2.2.2.2.2.2.2.2.2.1 | exact hdH.out.2.2.2.2.2.2.2.2.2.2.2.2.2.2.2.2)
      go_simp
      exact hK _ _ ⟨_, v12, v13, v14, _, _, v17, v18, v19, v20, v21, v22, v23, v24, v25, v26, v27, v28, v29, v30, v31, rfl, hb, (fun _ => rfl), (r12), (r13), (r14), (fun _ => rfl), (fun _ => rfl), (r17), (r18), (r19), (r20), (r21), (r22), (r23), (r24), (r25), (r26), (r27), (r28), (r29), (r30), (r31), (k31_30)⟩
    by_cases hie : i = 6
    · subst hie
      obtain rfl := Option.some.inj ho
      simp [Region.binds] at hd
      try (have hdH := Lib.hid hd; clear hd)
      go_simp
      exact hK _ _ ⟨v11, v12, v13, v14, v15, v16, _, v18, v19, v20, v21, v22, v23, v24, v25, v26, v27, v28, v29, v30, v31, rfl, hb, (r11), (r12), (r13), (r14), (r15), (r16), (fun _ => rfl), (r18), (r19), (r20), (r21), (r22), (r23), (r24), (r25), (r26), (r27), (r28), (r29), (r30), (r31), (k31_30)⟩
    by_cases hie : i = 7
    · subst hie
      obtain rfl := Option.some.inj ho
      simp [Region.binds] at hd
      try (have hdH := Lib.hid hd; clear hd)
      go_simp
      exact hK _ _ ⟨v11, v12, v13, v14, v15, v16, v17, _, v19, v20, v21, v22, v23, v24, v25, v26, v27, v28, v29, v30, v31, rfl, hb, (r11), (r12), (r13), (r14), (r15), (r16), (r17), (fun _ => rfl), (r19), (r20), (r21), (r22), (r23), (r24), (r25), (r26), (r27), (r28), (r29), (r30), (r31), (k31_30)⟩
    by_cases hie : i = 8
    · subst hie
      obtain rfl := Option.some.inj ho
      simp [Region.binds] at hd
      try (have hdH := Lib.hid hd; clear hd)
      obtain rfl := r18 (by first | exact hdH.out | exact hdH.out.1 | exact hdH.out.2 | exact hdH.out.2.1 | exact hdH.out.2.2 | exact hdH.out.2.2.1 | exact hdH.out.2.2.2 | exact hdH.out.2.2.2.1 | exact hdH.out.2.2.2.2 | exact hdH.out.2.2.2.2.1 | exact hdH.out.2.2.2.2.2 | exact hdH.out.2.2.2.2.2.1 | exact hdH.out.2.2.2.2.2.2 | exact hdH.out.2.2.2.2.2.2.1 | exact hdH.out.2.2.2.2.2.2.2 | exact hdH.out.2.2.2.2.2.2.2.1 | exact hdH.out.2.2.2.2.2.2.2.2 | exact hdH.out.2.2.2.2.2.2.2.2.1 | exact hdH.out.2.2.2.2.2.2.2.2.2 | exact hdH.out.2.2.2.2.2.2.2.2.2.1 | exact hdH.out.2.2.2.2.2.2.2.2.2.2 | exact hdH.out.2.2.2.2.2.2.2.2.2.2.1 | exact hdH.out.2.2.2.2.2.2.2.2.2.2.2 | exact hdH.out.2.2.2.2.2.2.2.2.2.2.2.1 | exact hdH.out.2.2.2.2.2.2.2.2.2.2.2.2 | exact hdH.out.2.2.2.2.2.2.2.2.2.2.2.2.1 | exact hdH.out.2.2.2.2.2.2.2.2.2.2.2.2.2 | exact hdH.out.2.2.2.2.2.2.2.2.2.2.2.2.2.1 | exact hdH.out.2.2.2.2.2.2.2.2.2.2.2.2.2.2 | exact hdH.out.2.2.2.2.2.2.2.2.2.2.2.2.2.2.1 | exact hdH.out.2.2.2.2.2.2.2.2.2.2.2.2.2.2.2 | exact hdH.out.2.2.2.2.2.2.2.2.2.2.2.2.2.2.2.1 | exact hdH.out.2.2.2.2.2.2.2.2.2.2.2.2.2.2.2.2)
      go_simp
      exact hK _ _ ⟨v11, v12, v13, v14, v15, v16, v17, _, _, v20, v21, v22, v23, v24, v25, v26, v27, v28, v29, v30, v31, rfl, hb, (r11), (r12), (r13), (r14), (r15), (r16), (r17), (fun _ => rfl), (fun _ => rfl), (r20), (r21), (r22), (r23), (r24), (r25), (r26), (r27), (r28), (r29), (r30), (r31), (k31_30)⟩
    by_cases hie : i = 9
    · subst hie
      obtain rfl := Option.some.inj ho
      simp [Region.binds] at hd
      try (have hdH := Lib.hid hd; clear hd)
      obtain rfl := r14 (by first | exact hdH.out | exact hdH.out.1 | exact hdH.out.2 | exact hdH.out.2.1 | exact hdH.out.2.2 | exact hdH.out.2.2.1 | exact hdH.out.2.2.2 | exact hdH.out.2.2.2.1 | exact hdH.out.2.2.2.2 | exact hdH.out.2.2.2.2.1 | exact hdH.out.2.2.2.2.2 | exact hdH.out.2.2.2.2.2.1 | exact hdH.out.2.2.2.2.2.2 | exact hdH.out.2.2.2.2.2.2.1 | exact hdH.out.2.2.2.2.2.2.2 | exact hdH.out.2.2.2.2.2.2.2.1 | exact hdH.out.2.2.2.2.2.2.2.2 | exact hdH.out.2.2.2.2.2.2.2.2.1 | exact hdH.out.2.2.2.2.2.2.2.2.2 | exact hdH.out.2.2.2.2.2.2.2.2.2.1 | exact hdH.out.2.2.2.2.2.2.2.2.2.2 | exact hdH.out.2.2.2.2.2.2.2.2.2.2.1 | exact hdH.out.2.2.2.2.2.2.2.2.2.2.2 | exact hdH.out.2.2.2.2.2.2.2.2.2.2.2.1 | exact hdH.out.2.2.2.2.2.2.2.2.2.2.2.2 | exact hdH.out.2.2.2.2.2.2.2.2.2.2.2.2.1 | exact hdH.out.2.2.2.2.2.2.2.2.2.2.2.2.2 | exact hdH.out.2.2.2.2.2.2.2.2.2.2.2.2.2.1 | exact hdH.out.2.2.2.2.2.2.2.2.2.2.2.2.2.2 | exact hdH.out.2.2.2.2.2.2.2.2.2.2.2.2.2.2.1 | exact hdH.out.2.2.2.2.2.2.2.2.2.2.2.2.2.2.2 | exact hdH.out.2.2.2.2.2.2.2.2.2.2.2.2.2.2.2.1 | exact hdH.out.2.2.2.2.2.2.2.2.2.2.2.2.2.2.2.2)
      obtain rfl := r19 (by first | exact hdH.out | exact hdH.out.1 | exact hdH.out.2 | exact hdH.out.2.1 | exact hdH.out.2.2 | exact hdH.out.2.2.1 | exact hdH.out.2.2.2 | exact hdH.out.2.2.2.1 | exact hdH.out.2.2.2.2 | exact hdH.out.2.2.2.2.1 | exact hdH.out.2.2.2.2.2 | exact hdH.out.2.2.2.2.2.1 | exact hdH.out.2.2.2.2.2.2 | exact hdH.out.2.2.2.2.2.2.1 | exact hdH.out.2.2.2.2.2.2.2 | exact hdH.out.2.2.2.2.2.2.2.1 | exact hdH.out.2.2.2.2.2.2.2.2 | exact hdH.out.2.2.2.2.2.2.2.2.1 | exact hdH.out.2.2.2.2.2.2.2.2.2 | exact hdH.out.2.2.2.2.2.2.2.2.2.1 | exact hdH.out.2.2.2.2.2.2.2.2.2.2 | exact hdH.out.2.2.2.2.2.2.2.2.2.2.1 | exact hdH.out.2.2.2.2.2.2.2.2.2.2.2 | exact hdH.out.2.2.2.2.2.2.2.2.2.2.2.1 | exact hdH.out.2.2.2.2.2.2.2.2.2.2.2.2 | exact hdH.out.2.2.2.2.2.2.2.2.2.2.2.2.1 | exact hdH.out.2.2.2.2.2.2.2.2.2.2.2.2.2 | exact hdH.out.2.2.2.2.2.2.2.2.2.2.2.2.2.1 | exact hdH.out.2.2.2.2.2.2.2.2.2.2.2.2.2.2 | exact hdH.out.2.2.2.2.2.2.2.2.2.2.2.2.2.2.1 | exact hdH.out.2.2.2.2.2.2.2.2.2.2.2.2.2.2.2 | exact hdH.out.2.2.2.2.2.2.2.2.2.2.2.2.2.2.2.1 | exact hdH.out.2.2.2.2.2.2.2.2.2.2.2.2.2.2.2.2)
      go_simp
      go_at_call 24; (with_reducible refine (picked_below b 65536 q _ Q h3.1 h3.2 (by decide) (by decide)).mono ?_); rintro e w2 ⟨rfl, hb2⟩
      exact hK _ _ ⟨v11, v12, v13, _, v15, v16, v17, v18, _, _, v21, v22, v23, v24, v25, v26, v27, v28, v29, v30, v31, rfl, below_step hb hb2, (r11), (r12), (r13), (fun _ => rfl), (r15), (r16), (r17), (r18), (fun _ => rfl), (fun _ => rfl), (r21), (r22), (r23), (r24), (r25), (r26), (r27), (r28), (r29), (fun h => NBytes.below (r30 h) hb2), (r31), (k31_30)⟩
    by_cases hie : i = 10
    · subst hie
      obtain rfl := Option.some.inj ho
      simp [Region.binds] at hd
      try (have hdH := Lib.hid hd; clear hd)
      obtain rfl := r20 (by first | exact hdH.out | exact hdH.out.1 | exact hdH.out.2 | exact hdH.out.2.1 | exact hdH.out.2.2 | exact hdH.out.2.2.1 | exact hdH.out.2.2.2 | exact hdH.out.2.2.2.1 | exact hdH.out.2.2.2.2 | exact hdH.out.2.2.2.2.1 | exact hdH.out.2.2.2.2.2 | exact hdH.out.2.2.2.2.2.1 | exact hdH.out.2.2.2.2.2.2 | exact hdH.out.2.2.2.2.2.2.1 | exact hdH.out.2.2.2.2.2.2.2 | exact hdH.out.2.2.2.2.2.2.2.1 | exact hdH.out.2.2.2.2.2.2.2.2 | exact hdH.out.2.2.2.2.2.2.2.2.1 | exact hdH.out.2.2.2.2.2.2.2.2.2 | exact hdH.out.2.2.2.2.2.2.2.2.2.1 | exact hdH.out.2.2.2.2.2.2.2.2.2.2 | exact hdH.out.2.2.2.2.2.2.2.2.2.2.1 | exact hdH.out.2.2.2.2.2.2.2.2.2.2.2 | exact hdH.out.2.2.2.2.2.2.2.2.2.2.2.1 | exact hdH.out.2.2.2.2.2.2.2.2.2.2.2.2 | exact hdH.out.2.2.2.2.2.2.2.2.2.2.2.2.1 | exact hdH.out.2.2.2.2.2.2.2.2.2.2.2.2.2 | exact hdH.out.2.2.2.2.2.2.2.2.2.2.2.2.2.1 | exact hdH.out.2.2.2.2.2.2.2.2.2.2.2.2.2.2 | exact hdH.out.2.2.2.2.2.2.2.2.2.2.2.2.2.2.1 | exact hdH.out.2.2.2.2.2.2.2.2.2.2.2.2.2.2.2 | exact hdH.out.2.2.2.2.2.2.2.2.2.2.2.2.2.2.2.1 | exact hdH.out.2.2.2.2.2.2.2.2.2.2.2.2.2.2.2.2)
      go_simp
      exact hK _ _ ⟨v11, v12, v13, v14, v15, v16, v17, v18, v19, _, _, v22, v23, v24, v25, v26, v27, v28, v29, v30, v31, rfl, hb, (r11), (r12), (r13), (r14), (r15), (r16), (r17), (r18), (r19), (fun _ => rfl), (fun _ => rfl), (r22), (r23), (r24), (r25), (r26), (r27), (r28), (r29), (r30), (r31), (k31_30)⟩
    by_cases hie : i = 11
    · subst hie
      obtain rfl := Option.some.inj ho
      simp [Region.binds] at hd
      try (have hdH := Lib.hid hd; clear hd)
      obtain rfl := r17 (by first | exact hdH.out | exact hdH.out.1 | exact hdH.out.2 | exact hdH.out.2.1 | exact hdH.out.2.2 | exact hdH.out.2.2.1 | exact hdH.out.2.2.2 | exact hdH.out.2.2.2.1 | exact hdH.out.2.2.2.2 | exact hdH.out.2.2.2.2.1 | exact hdH.out.2.2.2.2.2 | exact hdH.out.2.2.2.2.2.1 | exact hdH.out.2.2.2.2.2.2 | exact hdH.out.2.2.2.2.2.2.1 | exact hdH.out.2.2.2.2.2.2.2 | exact hdH.out.2.2.2.2.2.2.2.1 | exact hdH.out.2.2.2.2.2.2.2.2 | exact hdH.out.2.2.2.2.2.2.2.2.1 | exact hdH.out.2.2.2.2.2.2.2.2.2 | exact hdH.out.2.2.2.2.2.2.2.2.2.1 | exact hdH.out.2.2.2.2.2.2.2.2.2.2 | exact hdH.out.2.2.2.2.2.2.2.2.2.2.1 | exact hdH.out.2.2.2.2.2.2.2.2.2.2.2 | exact hdH.out.2.2.2.2.2.2.2.2.2.2.2.1 | exact hdH.out.2.2.2.2.2.2.2.2.2.2.2.2 | exact hdH.out.2.2.2.2.2.2.2.2.2.2.2.2.1 | exact hdH.out.2.2.2.2.2.2.2.2.2.2.2.2.2 | exact hdH.out.2.2.2.2.2.2.2.2.2.2.2.2.2.1 | exact hdH.out.2.2.2.2.2.2.2.2.2.2.2.2.2.2 | exact hdH.out.2.2.2.2.2.2.2.2.2.2.2.2.2.2.1 | exact hdH.out.2.2.2.2.2.2.2.2.2.2.2.2.2.2.2 | exact hdH.out.2.2.2.2.2.2.2.2.2.2.2.2.2.2.2.1 | exact hdH.out.2.2.2.2.2.2.2.2.2.2.2.2.2.2.2.2)
      obtain rfl := r21 (by first | exact hdH.out | exact hdH.out.1 | exact hdH.out.2 | exact hdH.out.2.1 | exact hdH.out.2.2 | exact hdH.out.2.2.1 | exact hdH.out.2.2.2 | exact hdH.out.2.2.2.1 | exact hdH.out.2.2.2.2 | exact hdH.out.2.2.2.2.1 | exact hdH.out.2.2.2.2.2 | exact hdH.out.2.2.2.2.2.1 | exact hdH.out.2.2.2.2.2.2 | exact hdH.out.2.2.2.2.2.2.1 | exact hdH.out.2.2.2.2.2.2.2 | exact hdH.out.2.2.2.2.2.2.2.1 | exact hdH.out.2.2.2.2.2.2.2.2 | exact hdH.out.2.2.2.2.2.2.2.2.1 | exact hdH.out.2.2.2.2.2.2.2.2.2 | exact hdH.out.2.2.2.2.2.2.2.2.2.1 | exact hdH.out.2.2.2.2.2.2.2.2.2.2 | exact hdH.out.2.2.2.2.2.2.2.2.2.2.1 | exact hdH.out.2.2.2.2.2.2.2.2.2.2.2 | exact hdH.out.2.2.2.2.2.2.2.2.2.2.2.1 | exact hdH.out.2.2.2.2.2.2.2.2.2.2.2.2 | exact hdH.out.2.2.2.2.2.2.2.2.2.2.2.2.1 | exact hdH.out.2.2.2.2.2.2.2.2.2.2.2.2.2 | exact hdH.out.2.2.2.2.2.2.2.2.2.2.2.2.2.1 | exact hdH.out.2.2.2.2.2.2.2.2.2.2.2.2.2.2 | exact hdH.out.2.2.2.2.2.2.2.2.2.2.2.2.2.2.1 | exact hdH.out.2.2.2.2.2.2.2.2.2.2.2.2.2.2.2 | exact hdH.out.2.2.2.2.2.2.2.2.2.2.2.2.2.2.2.1 | exact hdH.out.2.2.2.2.2.2.2.2.2.2.2.2.2.2.2.2)
      go_simp
      exact hK _ _ ⟨v11, v12, v13, v14, v15, v16, _, v18, v19, v20, _, _, v23, v24, v25, v26, v27, v28, v29, v30, v31, rfl, hb, (r11), (r12), (r13), (r14), (r15), (r16), (fun _ => rfl), (r18), (r19), (r20), (fun _ => rfl), (fun _ => rfl), (r23), (r24), (r25), (r26), (r27), (r28), (r29), (r30), (r31), (k31_30)⟩
    by_cases hie : i = 12
    · subst hie
      obtain rfl := Option.some.inj ho
      simp [Region.binds] at hd
      try (have hdH := Lib.hid hd; clear hd)
      go_simp
      exact hK _ _ ⟨v11, v12, v13, v14, v15, v16, v17, v18, v19, v20, v21, v22, _, v24, v25, v26, v27, v28, v29, v30, v31, rfl, hb, (r11), (r12), (r13), (r14), (r15), (r16), (r17), (r18), (r19), (r20), (r21), (r22), (fun _ => rfl), (r24), (r25), (r26), (r27), (r28), (r29), (r30), (r31), (k31_30)⟩
    by_cases hie : i = 13
    · subst hie
      obtain rfl := Option.some.inj ho
      simp [Region.binds] at hd
      try (have hdH := Lib.hid hd; clear hd)
      obtain rfl := r23 (by first | exact hdH.out | exact hdH.out.1 | exact hdH.out.2 | exact hdH.out.2.1 | exact hdH.out.2.2 | exact hdH.out.2.2.1 | exact hdH.out.2.2.2 | exact hdH.out.2.2.2.1 | exact hdH.out.2.2.2.2 | exact hdH.out.2.2.2.2.1 | exact hdH.out.2.2.2.2.2 | exact hdH.out.2.2.2.2.2.1 | exact hdH.out.2.2.2.2.2.2 | exact hdH.out.2.2.2.2.2.2.1 | exact hdH.out.2.2.2.2.2.2.2 | exact hdH.out.2.2.2.2.2.2.2.1 | exact hdH.out.2.2.2.2.2.2.2.2 | exact hdH.out.2.2.2.2.2.2.2.2.1 | exact hdH.out.2.2.2.2.2.2.2.2.2 | exact hdH.out.2.2.2.2.2.2.2.2.2.1 | exact hdH.out.2.2.2.2.2.2.2.2.2.2 | exact hdH.out.2.2.2.2.2.2.2.2.2.2.1 | exact hdH.out.2.2.2.2.2.2.2.2.2.2.2 | exact hdH.out.2.2.2.2.2.2.2.2.2.2.2.1 | exact hdH.out.2.2.2.2.2.2.2.2.2.2.2.2 | exact hdH.out.2.2.2.2.2.2.2.2.2.2.2.2.1 | exact hdH.out.2.2.2.2.2.2.2.2.2.2.2.2.2 | exact hdH.out.2.2.2.2.2.2.2.2.2.2.2.2.2.1 | exact hdH.out.2.2.2.2.2.2.2.2.2.2.2.2.2.2 | exact hdH.out.2.2.2.2.2.2.2.2.2.2.2.2.2.2.1 | exact hdH.out.2.2.2.2.2.2.2.2.2.2.2.2.2.2.2 | exact hdH.out.2.2.2.2.2.2.2.2.2.2.2.2.2.2.2.1 | exact hdH.out.2.2.2.2.2.2.2.2.2.2.2.2.2.2.2.2)
      go_simp
      exact hK _ _ ⟨v11, v12, v13, v14, v15, v16, v17, v18, v19, v20, v21, v22, _, _, v25, v26, v27, v28, v29, v30, v31, rfl, hb, (r11), (r12), (r13), (r14), (r15), (r16), (r17), (r18), (r19), (r20), (r21), (r22), (fun _ => rfl), (fun _ => rfl), (r25), (r26), (r27), (r28), (r29), (r30), (r31), (k31_30)⟩
    by_cases hie : i = 14
    · subst hie
      obtain rfl := Option.some.inj ho
      simp [Region.binds] at hd
      try (have hdH := Lib.hid hd; clear hd)
      go_simp
      exact hK _ _ ⟨v11, v12, v13, v14, v15, v16, v17, v18, v19, v20, v21, v22, v23, v24, _, v26, v27, v28, v29, v30, v31, rfl, hb, (r11), (r12), (r13), (r14), (r15), (r16), (r17), (r18), (r19), (r20), (r21), (r22), (r23), (r24), (fun _ => rfl), (r26), (r27), (r28), (r29), (r30), (r31), (k31_30)⟩
    by_cases hie : i = 15
    · subst hie
      obtain rfl := Option.some.inj ho
      simp [Region.binds] at hd
      try (have hdH := Lib.hid hd; clear hd)
      obtain rfl := r25 (by first | exact hdH.out | exact hdH.out.1 | exact hdH.out.2 | exact hdH.out.2.1 | exact hdH.out.2.2 | exact hdH.out.2.2.1 | exact hdH.out.2.2.2 | exact hdH.out.2.2.2.1 | exact hdH.out.2.2.2.2 | exact hdH.out.2.2.2.2.1 | exact hdH.out.2.2.2.2.2 | exact hdH.out.2.2.2.2.2.1 | exact hdH.out.2.2.2.2.2.2 | exact hdH.out.2.2.2.2.2.2.1 | exact hdH.out.2.2.2.2.2.2.2 | exact hdH.out.2.2.2.2.2.2.2.1 | exact hdH.out.2.2.2.2.2.2.2.2 | exact hdH.out.2.2.2.2.2.2.2.2.1 | exact hdH.out.2.2.2.2.2.2.2.2.2 | exact hdH.out.2.2.2.2.2.2.2.2.2.1 | exact hdH.out.2.2.2.2.2.2.2.2.2.2 | exact hdH.out.2.2.2.2.2.2.2.2.2.2.1 | exact hdH.out.2.2.2.2.2.2.2.2.2.2.2 | exact hdH.out.2.2.2.2.2.2.2.2.2.2.2.1 | exact hdH.out.2.2.2.2.2.2.2.2.2.2.2.2 | exact hdH.out.2.2.2.2.2.2.2.2.2.2.2.2.1 | exact hdH.out.2.2.2.2.2.2.2.2.2.2.2.2.2 | exact hdH.out.2.2.2.2.2.2.2.2.2.2.2.2.2.1 | exact hdH.out.2.2.2.2.2.2.2.2.2.2.2.2.2.2 | exact hdH.out.2.2.2.2.2.2.2.2.2.2.2.2.2.2.1 | exact hdH.out.2.2.2.2.2.2.2.2.2.2.2.2.2.2.2 | exact hdH.out.2.2.2.2.2.2.2.2.2.2.2.2.2.2.2.1 | exact hdH.out.2.2.2.2.2.2.2.2.2.2.2.2.2.2.2.2)
      go_simp
      exact hK _ _ ⟨v11, v12, v13, v14, v15, v16, v17, v18, v19, v20, v21, v22, v23, v24, _, _, v27, v28, v29, v30, v31, rfl, hb, (r11), (r12), (r13), (r14), (r15), (r16), (r17), (r18), (r19), (r20), (r21), (r22), (r23), (r24), (fun _ => rfl), (fun _ => rfl), (r27), (r28), (r29), (r30), (r31), (k31_30)⟩
    by_cases hie : i = 16
    · subst hie
      obtain rfl := Option.some.inj ho
      simp [Region.binds] at hd
      try (have hdH := Lib.hid hd; clear hd)
      obtain rfl := r26 (by first | exact hdH.out | exact hdH.out.1 | exact hdH.out.2 | exact hdH.out.2.1 | exact hdH.out.2.2 | exact hdH.out.2.2.1 | exact hdH.out.2.2.2 | exact hdH.out.2.2.2.1 | exact hdH.out.2.2.2.2 | exact hdH.out.2.2.2.2.1 | exact hdH.out.2.2.2.2.2 | exact hdH.out.2.2.2.2.2.1 | exact hdH.out.2.2.2.2.2.2 | exact hdH.out.2.2.2.2.2.2.1 | exact hdH.out.2.2.2.2.2.2.2 | exact hdH.out.2.2.2.2.2.2.2.1 | exact hdH.out.2.2.2.2.2.2.2.2 | exact hdH.out.2.2.2.2.2.2.2.2.1 | exact hdH.out.2.2.2.2.2.2.2.2.2 | exact hdH.out.2.2.2.2.2.2.2.2.2.1 | exact hdH.out.2.2.2.2.2.2.2.2.2.2 | exact hdH.out.2.2.2.2.2.2.2.2.2.2.1 | exact hdH.out.2.2.2.2.2.2.2.2.2.2.2 | exact hdH.out.2.2.2.2.2.2.2.2.2.2.2.1 | exact hdH.out.2.2.2.2.2.2.2.2.2.2.2.2 | exact hdH.out.2.2.2.2.2.2.2.2.2.2.2.2.1 | exact hdH.out.2.2.2.2.2.2.2.2.2.2.2.2.2 | exact hdH.out.2.2.2.2.2.2.2.2.2.2.2.2.2.1 | exact hdH.out.2.2.2.2.2.2.2.2.2.2.2.2.2.2 | exact hdH.out.2.2.2.2.2.2.2.2.2.2.2.2.2.2.1 | exact hdH.out.2.2.2.2.2.2.2.2.2.2.2.2.2.2.2 | exact hdH.out.2.2.2.2.2.2.2.2.2.2.2.2.2.2.2.1 | exact hdH.out.2.2.2.2.2.2.2.2.2.2.2.2.2.2.2.2)
      go_simp
      exact hK _ _ ⟨v11, v12, v13, v14, v15, v16, v17, v18, v19, v20, v21, v22, v23, v24, v25, _, _, v28, v29, v30, v31, rfl, hb, (r11), (r12), (r13), (r14), (r15), (r16), (r17), (r18), (r19), (r20), (r21), (r22), (r23), (r24), (r25), (fun _ => rfl), (fun _ => rfl), (r28), (r29), (r30), (r31), (k31_30)⟩
    by_cases hie : i = 17
    · subst hie
      obtain rfl := Option.some.inj ho
      simp [Region.binds] at hd
      try (have hdH := Lib.hid hd; clear hd)
      obtain rfl := r27 (by first | exact hdH.out | exact hdH.out.1 | exact hdH.out.2 | exact hdH.out.2.1 | exact hdH.out.2.2 | exact hdH.out.2.2.1 | exact hdH.out.2.2.2 | exact hdH.out.2.2.2.1 | exact hdH.out.2.2.2.2 | exact hdH.out.2.2.2.2.1 | exact hdH.out.2.2.2.2.2 | exact hdH.out.2.2.2.2.2.1 | exact hdH.out.2.2.2.2.2.2 | exact hdH.out.2.2.2.2.2.2.1 | exact hdH.out.2.2.2.2.2.2.2 | exact hdH.out.2.2.2.2.2.2.2.1 | exact hdH.out.2.2.2.2.2.2.2.2 | exact hdH.out.2.2.2.2.2.2.2.2.1 | exact hdH.out.2.2.2.2.2.2.2.2.2 | exact hdH.out.2.2.2.2.2.2.2.2.2.1 | exact hdH.out.2.2.2.2.2.2.2.2.2.2 | exact hdH.out.2.2.2.2.2.2.2.2.2.2.1 | exact hdH.out.2.2.2.2.2.2.2.2.2.2.2 | exact hdH.out.2.2.2.2.2.2.2.2.2.2.2.1 | exact hdH.out.2.2.2.2.2.2.2.2.2.2.2.2 | exact hdH.out.2.2.2.2.2.2.2.2.2.2.2.2.1 | exact hdH.out.2.2.2.2.2.2.2.2.2.2.2.2.2 | exact hdH.out.2.2.2.2.2.2.2.2.2.2.2.2.2.1 | exact hdH.out.2.2.2.2.2.2.2.2.2.2.2.2.2.2 | exact hdH.out.2.2.2.2.2.2.2.2.2.2.2.2.2.2.1 | exact hdH.out.2.2.2.2.2.2.2.2.2.2.2.2.2.2.2 | exact hdH.out.2.2.2.2.2.2.2.2.2.2.2.2.2.2.2.1 | exact hdH.out.2.2.2.2.2.2.2.2.2.2.2.2.2.2.2.2)
      go_simp
      exact hK _ _ ⟨v11, v12, v13, v14, v15, v16, v17, v18, v19, v20, v21, v22, v23, v24, v25, v26, _, _, v29, v30, v31, rfl, hb, (r11), (r12), (r13), (r14), (r15), (r16), (r17), (r18), (r19), (r20), (r21), (r22), (r23), (r24), (r25), (r26), (fun _ => rfl), (fun _ => rfl), (r29), (r30), (r31), (k31_30)⟩
    by_cases hie : i = 18
    · subst hie
      obtain rfl := Option.some.inj ho
      simp [Region.binds] at hd
      try (have hdH := Lib.hid hd; clear hd)
      obtain rfl := r24 (by first | exact hdH.out | exact hdH.out.1 | exact hdH.out.2 | exact hdH.out.2.1 | exact hdH.out.2.2 | exact hdH.out.2.2.1 | exact hdH.out.2.2.2 | exact hdH.out.2.2.2.1 | exact hdH.out.2.2.2.2 | exact hdH.out.2.2.2.2.1 | exact hdH.out.2.2.2.2.2 | exact hdH.out.2.2.2.2.2.1 | exact hdH.out.2.2.2.2.2.2 | exact hdH.out.2.2.2.2.2.2.1 | exact hdH.out.2.2.2.2.2.2.2 | exact hdH.out.2.2.2.2.2.2.2.1 | exact hdH.out.2.2.2.2.2.2.2.2 | exact hdH.out.2.2.2.2.2.2.2.2.1 | exact hdH.out.2.2.2.2.2.2.2.2.2 | exact hdH.out.2.2.2.2.2.2.2.2.2.1 | exact hdH.out.2.2.2.2.2.2.2.2.2.2 | exact hdH.out.2.2.2.2.2.2.2.2.2.2.1 | exact hdH.out.2.2.2.2.2.2.2.2.2.2.2 | exact hdH.out.2.2.2.2.2.2.2.2.2.2.2.1 | exact hdH.out.2.2.2.2.2.2.2.2.2.2.2.2 | exact hdH.out.2.2.2.2.2.2.2.2.2.2.2.2.1 | exact hdH.out.2.2.2.2.2.2.2.2.2.2.2.2.2 | exact hdH.out.2.2.2.2.2.2.2.2.2.2.2.2.2.1 | exact hdH.out.2.2.2.2.2.2.2.2.2.2.2.2.2.2 | exact hdH.out.2.2.2.2.2.2.2.2.2.2.2.2.2.2.1 | exact hdH.out.2.2.2.2.2.2.2.2.2.2.2.2.2.2.2 | exact hdH.out.2.2.2.2.2.2.2.2.2.2.2.2.2.2.2.1 | exact hdH.out.2.2.2.2.2.2.2.2.2.2.2.2.2.2.2.2)
      obtain rfl := r28 (by first | exact hdH.out | exact hdH.out.1 | exact hdH.out.2 | exact hdH.out.2.1 | exact hdH.out.2.2 | exact hdH.out.2.2.1 | exact hdH.out.2.2.2 | exact hdH.out.2.2.2.1 | exact hdH.out.2.2.2.2 | exact hdH.out.2.2.2.2.1 | exact hdH.out.2.2.2.2.2 | exact hdH.out.2.2.2.2.2.1 | exact hdH.out.2.2.2.2.2.2 | exact hdH.out.2.2.2.2.2.2.1 | exact hdH.out.2.2.2.2.2.2.2 | exact hdH.out.2.2.2.2.2.2.2.1 | exact hdH.out.2.2.2.2.2.2.2.2 | exact hdH.out.2.2.2.2.2.2.2.2.1 | exact hdH.out.2.2.2.2.2.2.2.2.2 | exact hdH.out.2.2.2.2.2.2.2.2.2.1 | exact hdH.out.2.2.2.2.2.2.2.2.2.2 | exact hdH.out.2.2.2.2.2.2.2.2.2.2.1 | exact hdH.out.2.2.2.2.2.2.2.2.2.2.2 | exact hdH.out.2.2.2.2.2.2.2.2.2.2.2.1 | exact hdH.out.2.2.2.2.2.2.2.2.2.2.2.2 | exact hdH.out.2.2.2.2.2.2.2.2.2.2.2.2.1 | exact hdH.out.2.2.2.2.2.2.2.2.2.2.2.2.2 | exact hdH.out.2.2.2.2.2.2.2.2.2.2.2.2.2.1 | exact hdH.out.2.2.2.2.2.2.2.2.2.2.2.2.2.2 | exact hdH.out.2.2.2.2.2.2.2.2.2.2.2.2.2.2.1 | exact hdH.out.2.2.2.2.2.2.2.2.2.2.2.2.2.2.2 | exact hdH.out.2.2.2.2.2.2.2.2.2.2.2.2.2.2.2.1 | exact hdH.out.2.2.2.2.2.2.2.2.2.2.2.2.2.2.2.2)
      go_simp
      exact hK _ _ ⟨v11, v12, v13, v14, v15, v16, v17, v18, v19, v20, v21, v22, v23, _, v25, v26, v27, _, _, v30, v31, rfl, hb, (r11), (r12), (r13), (r14), (r15), (r16), (r17), (r18), (r19), (r20), (r21), (r22), (r23), (fun _ => rfl), (r25), (r26), (r27), (fun _ => rfl), (fun _ => rfl), (r30), (r31), (k31_30)⟩
    by_cases hie : i = 19
    · subst hie
      obtain rfl := Option.some.inj ho
      simp [Region.binds] at hd
      try (have hdH := Lib.hid hd; clear hd)
      obtain rfl := r29 (by first | exact hdH.out | exact hdH.out.1 | exact hdH.out.2 | exact hdH.out.2.1 | exact hdH.out.2.2 | exact hdH.out.2.2.1 | exact hdH.out.2.2.2 | exact hdH.out.2.2.2.1 | exact hdH.out.2.2.2.2 | exact hdH.out.2.2.2.2.1 | exact hdH.out.2.2.2.2.2 | exact hdH.out.2.2.2.2.2.1 | exact hdH.out.2.2.2.2.2.2 | exact hdH.out.2.2.2.2.2.2.1 | exact hdH.out.2.2.2.2.2.2.2 | exact hdH.out.2.2.2.2.2.2.2.1 | exact hdH.out.2.2.2.2.2.2.2.2 | exact hdH.out.2.2.2.2.2.2.2.2.1 | exact hdH.out.2.2.2.2.2.2.2.2.2 | exact hdH.out.2.2.2.2.2.2.2.2.2.1 | exact hdH.out.2.2.2.2.2.2.2.2.2.2 | exact hdH.out.2.2.2.2.2.2.2.2.2.2.1 | exact hdH.out.2.2.2.2.2.2.2.2.2.2.2 | exact hdH.out.2.2.2.2.2.2.2.2.2.2.2.1 | exact hdH.out.2.2.2.2.2.2.2.2.2.2.2.2 | exact hdH.out.2.2.2.2.2.2.2.2.2.2.2.2.1 | exact hdH.out.2.2.2.2.2.2.2.2.2.2.2.2.2 | exact hdH.out.2.2.2.2.2.2.2.2.2.2.2.2.2.1 | exact hdH.out.2.2.2.2.2.2.2.2.2.2.2.2.2.2 | exact hdH.out.2.2.2.2.2.2.2.2.2.2.2.2.2.2.1 | exact hdH.out.2.2.2.2.2.2.2.2.2.2.2.2.2.2.2 | exact hdH.out.2.2.2.2.2.2.2.2.2.2.2.2.2.2.2.1 | exact hdH.out.2.2.2.2.2.2.2.2.2.2.2.2.2.2.2.2)
      obtain ⟨p3, w2, e2, ho, hb2⟩ := hcv.out w1
      go_simp
      exact hK _ _ ⟨v11, v12, v13, v14, v15, v16, v17, v18, v19, v20, v21, v22, v23, v24, v25, v26, v27, v28, _, _, v31, rfl, below_step hb hb2, (r11), (r12), (r13), (r14), (r15), (r16), (r17), (r18), (r19), (r20), (r21), (r22), (r23), (r24), (r25), (r26), (r27), (r28), (fun _ => rfl), (fun _ => ho.base hb.size), (fun h => absurd (k31_30 h) (by simp [hLi])), (fun _ => rfl)⟩
    by_cases hie : i = 20
    · subst hie
      obtain rfl := Option.some.inj ho
      simp [Region.binds] at hd
      try (have hdH := Lib.hid hd; clear hd)
      obtain rfl := r16 (by first | exact hdH.out | exact hdH.out.1 | exact hdH.out.2 | exact hdH.out.2.1 | exact hdH.out.2.2 | exact hdH.out.2.2.1 | exact hdH.out.2.2.2 | exact hdH.out.2.2.2.1 | exact hdH.out.2.2.2.2 | exact hdH.out.2.2.2.2.1 | exact hdH.out.2.2.2.2.2 | exact hdH.out.2.2.2.2.2.1 | exact hdH.out.2.2.2.2.2.2 | exact hdH.out.2.2.2.2.2.2.1 | exact hdH.out.2.2.2.2.2.2.2 | exact hdH.out.2.2.2.2.2.2.2.1 | exact hdH.out.2.2.2.2.2.2.2.2 | exact hdH.out.2.2.2.2.2.2.2.2.1 | exact hdH.out.2.2.2.2.2.2.2.2.2 | exact hdH.out.2.2.2.2.2.2.2.2.2.1 | exact hdH.out.2.2.2.2.2.2.2.2.2.2 | exact hdH.out.2.2.2.2.2.2.2.2.2.2.1 | exact hdH.out.2.2.2.2.2.2.2.2.2.2.2 | exact hdH.out.2.2.2.2.2.2.2.2.2.2.2.1 | exact hdH.out.2.2.2.2.2.2.2.2.2.2.2.2 | exact hdH.out.2.2.2.2.2.2.2.2.2.2.2.2.1 | exact hdH.out.2.2.2.2.2.2.2.2.2.2.2.2.2 | exact hdH.out.2.2.2.2.2.2.2.2.2.2.2.2.2.1 | exact hdH.out.2.2.2.2.2.2.2.2.2.2.2.2.2.2 | exact hdH.out.2.2.2.2.2.2.2.2.2.2.2.2.2.2.1 | exact hdH.out.2.2.2.2.2.2.2.2.2.2.2.2.2.2.2 | exact hdH.out.2.2.2.2.2.2.2.2.2.2.2.2.2.2.2.1 | exact hdH.out.2.2.2.2.2.2.2.2.2.2.2.2.2.2.2.2)
      obtain rfl := r22 (by first | exact hdH.out | exact hdH.out.1 | exact hdH.out.2 | exact hdH.out.2.1 | exact hdH.out.2.2 | exact hdH.out.2.2.1 | exact hdH.out.2.2.2 | exact hdH.out.2.2.2.1 | exact hdH.out.2.2.2.2 | exact hdH.out.2.2.2.2.1 | exact hdH.out.2.2.2.2.2 | exact hdH.out.2.2.2.2.2.1 | exact hdH.out.2.2.2.2.2.2 | exact hdH.out.2.2.2.2.2.2.1 | exact hdH.out.2.2.2.2.2.2.2 | exact hdH.out.2.2.2.2.2.2.2.1 | exact hdH.out.2.2.2.2.2.2.2.2 | exact hdH.out.2.2.2.2.2.2.2.2.1 | exact hdH.out.2.2.2.2.2.2.2.2.2 | exact hdH.out.2.2.2.2.2.2.2.2.2.1 | exact hdH.out.2.2.2.2.2.2.2.2.2.2 | exact hdH.out.2.2.2.2.2.2.2.2.2.2.1 | exact hdH.out.2.2.2.2.2.2.2.2.2.2.2 | exact hdH.out.2.2.2.2.2.2.2.2.2.2.2.1 | exact hdH.out.2.2.2.2.2.2.2.2.2.2.2.2 | exact hdH.out.2.2.2.2.2.2.2.2.2.2.2.2.1 | exact hdH.out.2.2.2.2.2.2.2.2.2.2.2.2.2 | exact hdH.out.2.2.2.2.2.2.2.2.2.2.2.2.2.1 | exact hdH.out.2.2.2.2.2.2.2.2.2.2.2.2.2.2 | exact hdH.out.2.2.2.2.2.2.2.2.2.2.2.2.2.2.1 | exact hdH.out.2.2.2.2.2.2.2.2.2.2.2.2.2.2.2 | exact hdH.out.2.2.2.2.2.2.2.2.2.2.2.2.2.2.2.1 | exact hdH.out.2.2.2.2.2.2.2.2.2.2.2.2.2.2.2.2)
      obtain ⟨_, _, _, rfl⟩ := NBytes.slice (r30 (by first | exact hdH.out | exact hdH.out.1 | exact hdH.out.2 | exact hdH.out.2.1 | exact hdH.out.2.2 | exact hdH.out.2.2.1 | exact hdH.out.2.2.2 | exact hdH.out.2.2.2.1 | exact hdH.out.2.2.2.2 | exact hdH.out.2.2.2.2.1 | exact hdH.out.2.2.2.2.2 | exact hdH.out.2.2.2.2.2.1 | exact hdH.out.2.2.2.2.2.2 | exact hdH.out.2.2.2.2.2.2.1 | exact hdH.out.2.2.2.2.2.2.2 | exact hdH.out.2.2.2.2.2.2.2.1 | exact hdH.out.2.2.2.2.2.2.2.2 | exact hdH.out.2.2.2.2.2.2.2.2.1 | exact hdH.out.2.2.2.2.2.2.2.2.2 | exact hdH.out.2.2.2.2.2.2.2.2.2.1 | exact hdH.out.2.2.2.2.2.2.2.2.2.2 | exact hdH.out.2.2.2.2.2.2.2.2.2.2.1 | exact hdH.out.2.2.2.2.2.2.2.2.2.2.2 | exact hdH.out.2.2.2.2.2.2.2.2.2.2.2.1 | exact hdH.out.2.2.2.2.2.2.2.2.2.2.2.2 | exact hdH.out.2.2.2.2.2.2.2.2.2.2.2.2.1 | exact hdH.out.2.2.2.2.2.2.2.2.2.2.2.2.2 | exact hdH.out.2.2.2.2.2.2.2.2.2.2.2.2.2.1 | exact hdH.out.2.2.2.2.2.2.2.2.2.2.2.2.2.2 | exact hdH.out.2.2.2.2.2.2.2.2.2.2.2.2.2.2.1 | exact hdH.out.2.2.2.2.2.2.2.2.2.2.2.2.2.2.2 | exact hdH.out.2.2.2.2.2.2.2.2.2.2.2.2.2.2.2.1 | exact hdH.out.2.2.2.2.2.2.2.2.2.2.2.2.2.2.2.2))
      go_simp
      exact hK _ _ ⟨v11, v12, v13, v14, v15, _, v17, v18, v19, v20, v21, _, v23, v24, v25, v26, v27, v28, v29, _, _, rfl, hb, (r11), (r12), (r13), (r14), (r15), (fun _ => rfl), (r17), (r18), (r19), (r20), (r21), (fun _ => rfl), (r23), (r24), (r25), (r26), (r27), (r28), (r29), (r30), (fun _ => rfl), (fun _ => (by first | exact hdH.out | exact hdH.out.1 | exact hdH.out.2 | exact hdH.out.2.1 | exact hdH.out.2.2 | exact hdH.out.2.2.1 | exact hdH.out.2.2.2 | exact hdH.out.2.2.2.1 | exact hdH.out.2.2.2.2 | exact hdH.out.2.2.2.2.1 | exact hdH.out.2.2.2.2.2 | exact hdH.out.2.2.2.2.2.1 | exact hdH.out.2.2.2.2.2.2 | exact hdH.out.2.2.2.2.2.2.1 | exact hdH.out.2.2.2.2.2.2.2 | exact hdH.out.2.2.2.2.2.2.2.1 | exact hdH.out.2.2.2.2.2.2.2.2 | exact hdH.out.2.2.2.2.2.2.2.2.1 | exact hdH.out.2.2.2.2.2.2.2.2.2 | exact hdH.out.2.2.2.2.2.2.2.2.2.1 | exact hdH.out.2.2.2.2.2.2.2.2.2.2 | exact hdH.out.2.2.2.2.2.2.2.2.2.2.1 | exact hdH.out.2.2.2.2.2.2.2.2.2.2.2 | exact hdH.out.2.2.2.2.2.2.2.2.2.2.2.1 | exact hdH.out.2.2.2.2.2.2.2.2.2.2.2.2 | exact hdH.out.2.2.2.2.2.2.2.2.2.2.2.2.1 | exact hdH.out.2.2.2.2.2.2.2.2.2.2.2.2.2 | exact hdH.out.2.2.2.2.2.2.2.2.2.2.2.2.2.1 | exact hdH.out.2.2.2.2.2.2.2.2.2.2.2.2.2.2 | exact hdH.out.2.2.2.2.2.2.2.2.2.2.2.2.2.2.1 | exact hdH.out.2.2.2.2.2.2.2.2.2.2.2.2.2.2.2 | exact hdH.out.2.2.2.2.2.2.2.2.2.2.2.2.2.2.2.1 | exact hdH.out.2.2.2.2.2.2.2.2.2.2.2.2.2.2.2.2))⟩
    exact absurd hi (by omega)
  intro L ac w1 hall ⟨v11, v12, v13, v14, v15, v16, v17, v18, v19, v20, v21, v22, v23, v24, v25, v26, v27, v28, v29, v30, v31, ha, hb, r11, r12, r13, r14, r15, r16, r17, r18, r19, r20, r21, r22, r23, r24, r25, r26, r27, r28, r29, r30, r31, k31_30⟩
  subst ha
  have n30 := r30 (hall 19 (by decide))
  clear r30
  clear k31_30
  obtain rfl := r11 (hall 0 (by decide))
  clear r11
  obtain rfl := r12 (hall 1 (by decide))
  clear r12
  obtain rfl := r13 (hall 2 (by decide))
  clear r13
  obtain rfl := r14 (hall 3 (by decide))
  clear r14
  obtain rfl := r15 (hall 4 (by decide))
  clear r15
  obtain rfl := r16 (hall 5 (by decide))
  clear r16
  obtain rfl := r17 (hall 6 (by decide))
  clear r17
  obtain rfl := r18 (hall 7 (by decide))
  clear r18
  obtain rfl := r19 (hall 8 (by decide))
  clear r19
  obtain rfl := r20 (hall 9 (by decide))
  clear r20
  obtain rfl := r21 (hall 10 (by decide))
  clear r21
  obtain rfl := r22 (hall 11 (by decide))
  clear r22
  obtain rfl := r23 (hall 12 (by decide))
  clear r23
  obtain rfl := r24 (hall 13 (by decide))
  clear r24
  obtain rfl := r25 (hall 14 (by decide))
  clear r25
  obtain rfl := r26 (hall 15 (by decide))
  clear r26
  obtain rfl := r27 (hall 16 (by decide))
  clear r27
  obtain rfl := r28 (hall 17 (by decide))
  clear r28
  obtain rfl := r29 (hall 18 (by decide))
  clear r29
  obtain rfl := r31 (hall 20 (by decide))
  clear r31
  clear hall L
  have hHeld := hb.mono (show w.heap.size + 1 ≤ w0.heap.size by first | omega | (simp; omega))
  obtain ⟨a30, m30, c30, rfl⟩ := n30.slice
  have e1 : ((167837696 + p : Nat) : Int) = 167837696 + (p : Int) := by omega
  have e2 : ((167903232 + q : Nat) : Int) = 167903232 + (q : Int) := by omega
  have E := Lib.hid (And.intro e1 e2)
  clear e1 e2
  have hB2 := hb
  generalize h167 : (167837696 + (p : Int)) = x1 at *
  generalize h168 : (167903232 + (q : Int)) = x2 at *
  replace h167 := Lib.hid h167
  replace h168 := Lib.hid h168
  have r0 := keeps hb hc1_0
  have r1 := keeps hb hc1_1
  have r2 := keeps hb hc1_2
  have y0 := fun o => keepsF hb hs1 (hz1 o)
  refine H_one (i := 21) (by kernel_rfl) rfl (fun K hK => ?_)
  go_simp
  skip
  refine hK.out _ _ (by (try dsimp only); exact ((hHeld.setCell (Nat.le_refl _) _).setCell (Nat.le_refl _) _).setCell (Nat.le_refl _) _) (fun hHeld => ?_)
  clear hK K
  try simp only [Act.put, List.setIfInBounds_toArray, List.set, List.getElem_toArray, List.getElem_cons_zero, List.getElem_cons_succ]
  refine wpAnyH_done (by kernel_rfl) ?_ _
  go_wp2_with (fail)
  refine bodyPost_ret (v := .agg #[.int .u32 x1, .int .u32 x2, .slice a30 m30 c30]) (by simp [results, Try.results30, go_sem, r0, r1, r2]) rfl ?_
  have hWe := hw.trans (hb.mono hw.size)
  have hn := (n30.stored (o := 0) (ys := [.int .u32 x1, .int .u32 x2, .slice a30 m30 c30]) (n30.apart_low hs1) rfl).base hw.size
  rw [← E.out.1, ← E.out.2] at hn ⊢
  exact ⟨_, rfl, hn, ((hWe.setCell (Nat.le_succ _) _).setCell (Nat.le_succ _) _).setCell (Nat.le_succ _) _⟩
set_option maxRecDepth 100000 in
set_option maxHeartbeats 1600000 in
theorem packet_1 (k a b : Int) (s : ByteArray) (p q : Nat) (w : World) (h2 : IntOk a) (h3 : IntOk b) (hs : s.size ≤ maxLen) (P : Hid (ppick a 65536 = (p : Int))) (Q : Hid (ppick b 65536 = (q : Int))) (hp : p < 65536) (hq : q < 65536) :
    Calls Try.prog 30 #[.int .i64 1, rawV k a b s] w (PkNew w (167903232 + p) (167837696 + q) (s.data.toList.take 40)) := by
  obtain ⟨m, hm⟩ : ∃ m : Nat, m = min s.size 40 := ⟨_, rfl⟩
  have hms : m ≤ s.size := by omega
  have hmi := Lib.hid (show min (s.size : Int) 40 = (m : Int) by omega)
  have hcv := conv_cut s m hm hs
  have hmin : ∀ wx : World, Sem.run Try.prog (Builtin.min_ #[3, 3] 3 #[.int .i64 (s.size : Int), .int .i64 40]) wx = .ok (.int .i64 (m : Int)) wx := fun wx => run_min40 wx s.size m hmi
  clear hm
  have u1 : IntKind.u32.wrap (p : Int) = p := IntWalk.u32_in _ (by omega)
  have u2 : IntKind.u32.wrap (q : Int) = q := IntWalk.u32_in _ (by omega)
  have u3 : IntKind.u32.wrap (167837696 + (p : Int)) = 167837696 + p := IntWalk.u32_in _ (by omega)
  have u4 : IntKind.u32.wrap (167903232 + (q : Int)) = 167903232 + q := IntWalk.u32_in _ (by omega)
  have u5 : IntKind.u32.wrap (167837696 + (q : Int)) = 167837696 + q := IntWalk.u32_in _ (by omega)
  have u6 : IntKind.u32.wrap (167903232 + (p : Int)) = 167903232 + p := IntWalk.u32_in _ (by omega)
  go_enter Try.func30, Try.ntmps30
  go_wp2_with (fail)
  have hw : Below w.heap.size w ((w.alloc (Obj.cells #[.int .i64 k, .int .i64 a, .int .i64 b, .string s] 23)).alloc (Obj.cells #[.int .u32 0, .int .u32 0, .slice none 0 0] 48)) := ((((Below.refl w.heap.size w).alloc (by first | exact Nat.le_refl _ | (simp; done) | (simp; omega)) _)).alloc (by first | exact Nat.le_refl _ | (simp; done) | (simp; omega)) _)
  have hc0_0 : ((w.alloc (Obj.cells #[.int .i64 k, .int .i64 a, .int .i64 b, .string s] 23)).alloc (Obj.cells #[.int .u32 0, .int .u32 0, .slice none 0 0] 48)).cell? ⟨w.heap.size, 0, none⟩ = some (.int .i64 k) := cell_up (cell_at (by first | rfl | simp) 0 rfl)
  have hc0_1 : ((w.alloc (Obj.cells #[.int .i64 k, .int .i64 a, .int .i64 b, .string s] 23)).alloc (Obj.cells #[.int .u32 0, .int .u32 0, .slice none 0 0] 48)).cell? ⟨w.heap.size, 1, none⟩ = some (.int .i64 a) := cell_up (cell_at (by first | rfl | simp) 1 rfl)
  have hc0_2 : ((w.alloc (Obj.cells #[.int .i64 k, .int .i64 a, .int .i64 b, .string s] 23)).alloc (Obj.cells #[.int .u32 0, .int .u32 0, .slice none 0 0] 48)).cell? ⟨w.heap.size, 2, none⟩ = some (.int .i64 b) := cell_up (cell_at (by first | rfl | simp) 2 rfl)
  have hc0_3 : ((w.alloc (Obj.cells #[.int .i64 k, .int .i64 a, .int .i64 b, .string s] 23)).alloc (Obj.cells #[.int .u32 0, .int .u32 0, .slice none 0 0] 48)).cell? ⟨w.heap.size, 3, none⟩ = some (.string s) := cell_up (cell_at (by first | rfl | simp) 3 rfl)
  have hc1_0 : ((w.alloc (Obj.cells #[.int .i64 k, .int .i64 a, .int .i64 b, .string s] 23)).alloc (Obj.cells #[.int .u32 0, .int .u32 0, .slice none 0 0] 48)).cell? ⟨w.heap.size + 1, 0, none⟩ = some (.int .u32 0) := cell_at (by first | rfl | simp) 0 rfl
  have hc1_1 : ((w.alloc (Obj.cells #[.int .i64 k, .int .i64 a, .int .i64 b, .string s] 23)).alloc (Obj.cells #[.int .u32 0, .int .u32 0, .slice none 0 0] 48)).cell? ⟨w.heap.size + 1, 1, none⟩ = some (.int .u32 0) := cell_at (by first | rfl | simp) 1 rfl
  have hc1_2 : ((w.alloc (Obj.cells #[.int .i64 k, .int .i64 a, .int .i64 b, .string s] 23)).alloc (Obj.cells #[.int .u32 0, .int .u32 0, .slice none 0 0] 48)).cell? ⟨w.heap.size + 1, 2, none⟩ = some (.slice none 0 0) := cell_at (by first | rfl | simp) 2 rfl
  have hs0 : w.heap.size < ((w.alloc (Obj.cells #[.int .i64 k, .int .i64 a, .int .i64 b, .string s] 23)).alloc (Obj.cells #[.int .u32 0, .int .u32 0, .slice none 0 0] 48)).heap.size := by simp <;> omega
  have hs1 : w.heap.size + 1 < ((w.alloc (Obj.cells #[.int .i64 k, .int .i64 a, .int .i64 b, .string s] 23)).alloc (Obj.cells #[.int .u32 0, .int .u32 0, .slice none 0 0] 48)).heap.size := by simp <;> omega
  have hz0 : ∀ o, ((w.alloc (Obj.cells #[.int .i64 k, .int .i64 a, .int .i64 b, .string s] 23)).alloc (Obj.cells #[.int .u32 0, .int .u32 0, .slice none 0 0] 48)).frozen? ⟨w.heap.size, o, none⟩ = false := fun o => froz_up (by first | (simp; done) | (simp; omega)) (froz_at (by first | rfl | simp) o)
  have hz1 : ∀ o, ((w.alloc (Obj.cells #[.int .i64 k, .int .i64 a, .int .i64 b, .string s] 23)).alloc (Obj.cells #[.int .u32 0, .int .u32 0, .slice none 0 0] 48)).frozen? ⟨w.heap.size + 1, o, none⟩ = false := fun o => froz_at (by first | rfl | simp) o
  generalize ((w.alloc (Obj.cells #[.int .i64 k, .int .i64 a, .int .i64 b, .string s] 23)).alloc (Obj.cells #[.int .u32 0, .int .u32 0, .slice none 0 0] 48)) = w0 at *
  have hB : Below w0.heap.size w0 w0 := Below.refl _ _
  go_wp2_with (fail)
  refine wp_region_float (m := 21) (S := fun wS => Below (w.heap.size + 1) w0 wS) (by kernel_rfl) (by kernel_rfl) (by kernel_rfl) (fun L ac w1 => ∃ v11 v12 v13 v14 v15 v16 v17 v18 v19 v20 v21 v22 v23 v24 v25 v26 v27 v28 v29 v30 v31, ac = { tmps := #[.int .i64 1, rawV k a b s, undef, .pointer (some ⟨w.heap.size, 0, none⟩), .pointer (some ⟨w.heap.size + 1, 0, none⟩), .int .u32 167903232, .int .u32 167837696, .int .i64 1, .bool true, .int .u32 167903232, .int .u32 167837696, v11, v12, v13, v14, v15, v16, v17, v18, v19, v20, v21, v22, v23, v24, v25, v26, v27, v28, v29, v30, v31], defers := [] } ∧ Below w0.heap.size w0 w1 ∧ (L 0 = true → v11 = .int .u32 167903232) ∧ (L 1 = true → v12 = .pointer (some ⟨w.heap.size, 1, none⟩)) ∧ (L 2 = true → v13 = .int .i64 a) ∧ (L 3 = true → v14 = .int .i64 (p : Int)) ∧ (L 4 = true → v15 = .int .u32 (p : Int)) ∧ (L 5 = true → v16 = .int .u32 (167903232 + (p : Int))) ∧ (L 6 = true → v17 = .int .u32 167837696) ∧ (L 7 = true → v18 = .pointer (some ⟨w.heap.size, 2, none⟩)) ∧ (L 8 = true → v19 = .int .i64 b) ∧ (L 9 = true → v20 = .int .i64 (q : Int)) ∧ (L 10 = true → v21 = .int .u32 (q : Int)) ∧ (L 11 = true → v22 = .int .u32 (167837696 + (q : Int))) ∧ (L 12 = true → v23 = .pointer (some ⟨w.heap.size, 3, none⟩)) ∧ (L 13 = true → v24 = .string s) ∧ (L 14 = true → v25 = .pointer (some ⟨w.heap.size, 3, none⟩)) ∧ (L 15 = true → v26 = .string s) ∧ (L 16 = true → v27 = .int .i64 (s.size : Int)) ∧ (L 17 = true → v28 = .int .i64 (m : Int)) ∧ (L 18 = true → v29 = .string (s.extract 0 m)) ∧ (L 19 = true → NBytes w0.heap.size w1 v30 (s.data.toList.take 40)) ∧ (L 20 = true → v31 = .agg #[.int .u32 (167903232 + (p : Int)), .int .u32 (167837696 + (q : Int)), v30]) ∧ (L 20 = true → L 19 = true)) ?_ ?_ ?_
  · intro L hL
    refine ⟨undef, undef, undef, undef, undef, undef, undef, undef, undef, undef, undef, undef, undef, undef, undef, undef, undef, undef, undef, undef, undef, rfl, hB.drew, ?_⟩
    simp [hL]
  · intro L ac w1 i o K hi ho hLi hd ⟨v11, v12, v13, v14, v15, v16, v17, v18, v19, v20, v21, v22, v23, v24, v25, v26, v27, v28, v29, v30, v31, ha, hb, r11, r12, r13, r14, r15, r16, r17, r18, r19, r20, r21, r22, r23, r24, r25, r26, r27, r28, r29, r30, r31, k31_30⟩ hK
    subst ha
    have hc := (bcell hb).1
    by_cases hie : i = 0
    · subst hie
      obtain rfl := Option.some.inj ho
      simp [Region.binds] at hd
      try (have hdH := Lib.hid hd; clear hd)
      go_simp
      exact hK _ _ ⟨_, v12, v13, v14, v15, v16, v17, v18, v19, v20, v21, v22, v23, v24, v25, v26, v27, v28, v29, v30, v31, rfl, hb, (fun _ => rfl), (r12), (r13), (r14), (r15), (r16), (r17), (r18), (r19), (r20), (r21), (r22), (r23), (r24), (r25), (r26), (r27), (r28), (r29), (r30), (r31), (k31_30)⟩
    by_cases hie : i = 1
    · subst hie
      obtain rfl := Option.some.inj ho
      simp [Region.binds] at hd
      try (have hdH := Lib.hid hd; clear hd)
      go_simp
      exact hK _ _ ⟨v11, _, v13, v14, v15, v16, v17, v18, v19, v20, v21, v22, v23, v24, v25, v26, v27, v28, v29, v30, v31, rfl, hb, (r11), (fun _ => rfl), (r13), (r14), (r15), (r16), (r17), (r18), (r19), (r20), (r21), (r22), (r23), (r24), (r25), (r26), (r27), (r28), (r29), (r30), (r31), (k31_30)⟩
    by_cases hie : i = 2
    · subst hie
      obtain rfl := Option.some.inj ho
      simp [Region.binds] at hd
      try (have hdH := Lib.hid hd; clear hd)
      obtain rfl := r12 (by first | exact hdH.out | exact hdH.out.1 | exact hdH.out.2 | exact hdH.out.2.1 | exact hdH.out.2.2 | exact hdH.out.2.2.1 | exact hdH.out.2.2.2 | exact hdH.out.2.2.2.1 | exact hdH.out.2.2.2.2 | exact hdH.out.2.2.2.2.1 | exact hdH.out.2.2.2.2.2 | exact hdH.out.2.2.2.2.2.1 | exact hdH.out.2.2.2.2.2.2 | exact hdH.out.2.2.2.2.2.2.1 | exact hdH.out.2.2.2.2.2.2.2 | exact hdH.out.2.2.2.2.2.2.2.1 | exact hdH.out.2.2.2.2.2.2.2.2 | exact hdH.out.2.2.2.2.2.2.2.2.1 | exact hdH.out.2.2.2.2.2.2.2.2.2 | exact hdH.out.2.2.2.2.2.2.2.2.2.1 | exact hdH.out.2.2.2.2.2.2.2.2.2.2 | exact hdH.out.2.2.2.2.2.2.2.2.2.2.1 | exact hdH.out.2.2.2.2.2.2.2.2.2.2.2 | exact hdH.out.2.2.2.2.2.2.2.2.2.2.2.1 | exact hdH.out.2.2.2.2.2.2.2.2.2.2.2.2 | exact hdH.out.2.2.2.2.2.2.2.2.2.2.2.2.1 | exact hdH.out.2.2.2.2.2.2.2.2.2.2.2.2.2 | exact hdH.out.2.2.2.2.2.2.2.2.2.2.2.2.2.1 | exact hdH.out.2.2.2.2.2.2.2.2.2.2.2.2.2.2 | exact hdH.out.2.2.2.2.2.2.2.2.2.2.2.2.2.2.1 | exact hdH.out.2.2.2.2.2.2.2.2.2.2.2.2.2.2.2 | exact hdH.out.2.2.2.2.2.2.2.2.2.2.2.2.2.2.2.1 | exact hdH.out.2.2.2.2.2.2.2.2.2.2.2.2.2.2.2.2)
      go_simp
      exact hK _ _ ⟨v11, _, _, v14, v15, v16, v17, v18, v19, v20, v21, v22, v23, v24, v25, v26, v27, v28, v29, v30, v31, rfl, hb, (r11), (fun _ => rfl), (fun _ => rfl), (r14), (r15), (r16), (r17), (r18), (r19), (r20), (r21), (r22), (r23), (r24), (r25), (r26), (r27), (r28), (r29), (r30), (r31), (k31_30)⟩
    by_cases hie : i = 3
    · subst hie
      obtain rfl := Option.some.inj ho
      simp [Region.binds] at hd
      try (have hdH := Lib.hid hd; clear hd)
      obtain rfl := r13 (by first | exact hdH.out | exact hdH.out.1 | exact hdH.out.2 | exact hdH.out.2.1 | exact hdH.out.2.2 | exact hdH.out.2.2.1 | exact hdH.out.2.2.2 | exact hdH.out.2.2.2.1 | exact hdH.out.2.2.2.2 | exact hdH.out.2.2.2.2.1 | exact hdH.out.2.2.2.2.2 | exact hdH.out.2.2.2.2.2.1 | exact hdH.out.2.2.2.2.2.2 | exact hdH.out.2.2.2.2.2.2.1 | exact hdH.out.2.2.2.2.2.2.2 | exact hdH.out.2.2.2.2.2.2.2.1 | exact hdH.out.2.2.2.2.2.2.2.2 | exact hdH.out.2.2.2.2.2.2.2.2.1 | exact hdH.out.2.2.2.2.2.2.2.2.2 | exact hdH.out.2.2.2.2.2.2.2.2.2.1 | exact hdH.out.2.2.2.2.2.2.2.2.2.2 | exact hdH.out.2.2.2.2.2.2.2.2.2.2.1 | exact hdH.out.2.2.2.2.2.2.2.2.2.2.2 | exact hdH.out.2.2.2.2.2.2.2.2.2.2.2.1 | exact hdH.out.2.2.2.2.2.2.2.2.2.2.2.2 | exact hdH.out.2.2.2.2.2.2.2.2.2.2.2.2.1 | exact hdH.out.2.2.2.2.2.2.2.2.2.2.2.2.2 | exact hdH.out.2.2.2.2.2.2.2.2.2.2.2.2.2.1 | exact hdH.out.2.2.2.2.2.2.2.2.2.2.2.2.2.2 | exact hdH.out.2.2.2.2.2.2.2.2.2.2.2.2.2.2.1 | exact hdH.out.2.2.2.2.2.2.2.2.2.2.2.2.2.2.2 | exact hdH.out.2.2.2.2.2.2.2.2.2.2.2.2.2.2.2.1 | exact hdH.out.2.2.2.2.2.2.2.2.2.2.2.2.2.2.2.2)
      go_simp
      go_at_call 24; (with_reducible refine (((fun h => h) (picked_below a 65536 p _ P h2.1 h2.2 (by decide) (by decide)))).mono ?_); rintro e w2 ⟨rfl, hb2⟩
      exact hK _ _ ⟨v11, v12, _, _, v15, v16, v17, v18, v19, v20, v21, v22, v23, v24, v25, v26, v27, v28, v29, v30, v31, rfl, below_step hb hb2, (r11), (r12), (fun _ => rfl), (fun _ => rfl), (r15), (r16), (r17), (r18), (r19), (r20), (r21), (r22), (r23), (r24), (r25), (r26), (r27), (r28), (r29), (fun h => NBytes.below (r30 h) hb2), (r31), (k31_30)⟩
    by_cases hie : i = 4
    · subst hie
      obtain rfl := Option.some.inj ho
      simp [Region.binds] at hd
      try (have hdH := Lib.hid hd; clear hd)
      obtain rfl := r14 (by first | exact hdH.out | exact hdH.out.1 | exact hdH.out.2 | exact hdH.out.2.1 | exact hdH.out.2.2 | exact hdH.out.2.2.1 | exact hdH.out.2.2.2 | exact hdH.out.2.2.2.1 | exact hdH.out.2.2.2.2 | exact hdH.out.2.2.2.2.1 | exact hdH.out.2.2.2.2.2 | exact hdH.out.2.2.2.2.2.1 | exact hdH.out.2.2.2.2.2.2 | exact hdH.out.2.2.2.2.2.2.1 | exact hdH.out.2.2.2.2.2.2.2 | exact hdH.out.2.2.2.2.2.2.2.1 | exact hdH.out.2.2.2.2.2.2.2.2 | exact hdH.out.2.2.2.2.2.2.2.2.1 | exact hdH.out.2.2.2.2.2.2.2.2.2 | exact hdH.out.2.2.2.2.2.2.2.2.2.1 | exact hdH.out.2.2.2.2.2.2.2.2.2.2 | exact hdH.out.2.2.2.2.2.2.2.2.2.2.1 | exact hdH.out.2.2.2.2.2.2.2.2.2.2.2 | exact hdH.out.2.2.2.2.2.2.2.2.2.2.2.1 | exact hdH.out.2.2.2.2.2.2.2.2.2.2.2.2 | exact hdH.out.2.2.2.2.2.2.2.2.2.2.2.2.1 | exact hdH.out.2.2.2.2.2.2.2.2.2.2.2.2.2 | exact hdH.out.2.2.2.2.2.2.2.2.2.2.2.2.2.1 | exact hdH.out.2.2.2.2.2.2.2.2.2.2.2.2.2.2 | exact hdH.out.2.2.2.2.2.2.2.2.2.2.2.2.2.2.1 | exact hdH.out.2.2.2.2.2.2.2.2.2.2.2.2.2.2.2 | exact hdH.out.2.2.2.2.2.2.2.2.2.2.2.2.2.2.2.1 | exact hdH.out.2.2.2.2.2.2.2.2.2.2.2.2.2.2.2.2)
      go_simp
      exact hK _ _ ⟨v11, v12, v13, _, _, v16, v17, v18, v19, v20, v21, v22, v23, v24, v25, v26, v27, v28, v29, v30, v31, rfl, hb, (r11), (r12), (r13), (fun _ => rfl), (fun _ => rfl), (r16), (r17), (r18), (r19), (r20), (r21), (r22), (r23), (r24), (r25), (r26), (r27), (r28), (r29), (r30), (r31), (k31_30)⟩
    by_cases hie : i = 5
    · subst hie
      obtain rfl := Option.some.inj ho
      simp [Region.binds] at hd
      try (have hdH := Lib.hid hd; clear hd)
      obtain rfl := r11 (by first | exact hdH.out | exact hdH.out.1 | exact hdH.out.2 | exact hdH.out.2.1 | exact hdH.out.2.2 | exact hdH.out.2.2.1 | exact hdH.out.2.2.2 | exact hdH.out.2.2.2.1 | exact hdH.out.2.2.2.2 | exact hdH.out.2.2.2.2.1 | exact hdH.out.2.2.2.2.2 | exact hdH.out.2.2.2.2.2.1 | exact hdH.out.2.2.2.2.2.2 | exact hdH.out.2.2.2.2.2.2.1 | exact hdH.out.2.2.2.2.2.2.2 | exact hdH.out.2.2.2.2.2.2.2.1 | exact hdH.out.2.2.2.2.2.2.2.2 | exact hdH.out.2.2.2.2.2.2.2.2.1 | exact hdH.out.2.2.2.2.2.2.2.2.2 | exact hdH.out.2.2.2.2.2.2.2.2.2.1 | exact hdH.out.2.2.2.2.2.2.2.2.2.2 | exact hdH.out.2.2.2.2.2.2.2.2.2.2.1 | exact hdH.out.2.2.2.2.2.2.2.2.2.2.2 | exact hdH.out.2.2.2.2.2.2.2.2.2.2.2.1 | exact hdH.out.2.2.2.2.2.2.2.2.2.2.2.2 | exact hdH.out.2.2.2.2.2.2.2.2.2.2.2.2.1 | exact hdH.out.2.2.2.2.2.2.2.2.2.2.2.2.2 | exact hdH.out.2.2.2.2.2.2.2.2.2.2.2.2.2.1 | exact hdH.out.2.2.2.2.2.2.2.2.2.2.2.2.2.2 | exact hdH.out.2.2.2.2.2.2.2.2.2.2.2.2.2.2.1 | exact hdH.out.2.2.2.2.2.2.2.2.2.2.2.2.2.2.2 | exact hdH.out.2.2.2.2.2.2.2.2.2.2.2.2.2.2.2.1 | exact hdH.out.2.2.2.2.2.2.2.2.2.2.2.2.2.2.2.2)
      obtain rfl := r15 (by first | exact hdH.out | exact hdH.out.1 | exact hdH.out.2 | exact hdH.out.2.1 | exact hdH.out.2.2 | exact hdH.out.2.2.1 | exact hdH.out.2.2.2 | exact hdH.out.2.2.2.1 | exact hdH.out.2.2.2.2 | exact hdH.out.2.2.2.2.1 | exact hdH.out.2.2.2.2.2 | exact hdH.out.2.2.2.2.2.1 | exact hdH.out.2.2.2.2.2.2 | exact hdH.out.2.2.2.2.2.2.1 | exact hdH.out.2.2.2.2.2.2.2 | exact hdH.out.2.2.2.2.2.2.2.1 | exact hdH.out.2.2.2.2.2.2.2.2 | exact hdH.out.2.2.2.2.2.2.2.2.1 | exact hdH.out.2.2.2.2.2.2.2.2.2 | exact hdH.out.2.2.2.2.2.2.2.2.2.1 | exact hdH.out.2.2.2.2.2.2.2.2.2.2 | exact hdH.out.2.2.2.2.2.2.2.2.2.2.1 | exact hdH.out.2.2.2.2.2.2.2.2.2.2.2 | exact hdH.out.2.2.2.2.2.2.2.2.2.2.2.1 | exact hdH.out.2.2.2.2.2.2.2.2.2.2.2.2 | exact hdH.out.2.2.2.2.2.2.2.2.2.2.2.2.1 | exact hdH.out.2.2.2.2.2.2.2.2.2.2.2.2.2 | exact hdH.out.2.2.2.2.2.2.2.2.2.2.2.2.2.1 | exact hdH.out.2.2.2.2.2.2.2.2.2.2.2.2.2.2 | exact hdH.out.2.2.2.2.2.2.2.2.2.2.2.2.2.2.1 | exact hdH.out.2.2.2.2.2.2.2.2.2.2.2.2.2.2.2 | exact hdH.out.2.2.2.2.2.2.2.2.2.2.2.2.2.2.2.1 | exact hdH.out.2.2.2.2.2.2.2.2.2.2.2.2.2.2.2.2)
      go_simp
      exact hK _ _ ⟨_, v12, v13, v14, _, _, v17, v18, v19, v20, v21, v22, v23, v24, v25, v26, v27, v28, v29, v30, v31, rfl, hb, (fun _ => rfl), (r12), (r13), (r14), (fun _ => rfl), (fun _ => rfl), (r17), (r18), (r19), (r20), (r21), (r22), (r23), (r24), (r25), (r26), (r27), (r28), (r29), (r30), (r31), (k31_30)⟩
    by_cases hie : i = 6
    · subst hie
      obtain rfl := Option.some.inj ho
      simp [Region.binds] at hd
      try (have hdH := Lib.hid hd; clear hd)
      go_simp
      exact hK _ _ ⟨v11, v12, v13, v14, v15, v16, _, v18, v19, v20, v21, v22, v23, v24, v25, v26, v27, v28, v29, v30, v31, rfl, hb, (r11), (r12), (r13), (r14), (r15), (r16), (fun _ => rfl), (r18), (r19), (r20), (r21), (r22), (r23), (r24), (r25), (r26), (r27), (r28), (r29), (r30), (r31), (k31_30)⟩
    by_cases hie : i = 7
    · subst hie
      obtain rfl := Option.some.inj ho
      simp [Region.binds] at hd
      try (have hdH := Lib.hid hd; clear hd)
      go_simp
      exact hK _ _ ⟨v11, v12, v13, v14, v15, v16, v17, _, v19, v20, v21, v22, v23, v24, v25, v26, v27, v28, v29, v30, v31, rfl, hb, (r11), (r12), (r13), (r14), (r15), (r16), (r17), (fun _ => rfl), (r19), (r20), (r21), (r22), (r23), (r24), (r25), (r26), (r27), (r28), (r29), (r30), (r31), (k31_30)⟩
    by_cases hie : i = 8
    · subst hie
      obtain rfl := Option.some.inj ho
      simp [Region.binds] at hd
      try (have hdH := Lib.hid hd; clear hd)
      obtain rfl := r18 (by first | exact hdH.out | exact hdH.out.1 | exact hdH.out.2 | exact hdH.out.2.1 | exact hdH.out.2.2 | exact hdH.out.2.2.1 | exact hdH.out.2.2.2 | exact hdH.out.2.2.2.1 | exact hdH.out.2.2.2.2 | exact hdH.out.2.2.2.2.1 | exact hdH.out.2.2.2.2.2 | exact hdH.out.2.2.2.2.2.1 | exact hdH.out.2.2.2.2.2.2 | exact hdH.out.2.2.2.2.2.2.1 | exact hdH.out.2.2.2.2.2.2.2 | exact hdH.out.2.2.2.2.2.2.2.1 | exact hdH.out.2.2.2.2.2.2.2.2 | exact hdH.out.2.2.2.2.2.2.2.2.1 | exact hdH.out.2.2.2.2.2.2.2.2.2 | exact hdH.out.2.2.2.2.2.2.2.2.2.1 | exact hdH.out.2.2.2.2.2.2.2.2.2.2 | exact hdH.out.2.2.2.2.2.2.2.2.2.2.1 | exact hdH.out.2.2.2.2.2.2.2.2.2.2.2 | exact hdH.out.2.2.2.2.2.2.2.2.2.2.2.1 | exact hdH.out.2.2.2.2.2.2.2.2.2.2.2.2 | exact hdH.out.2.2.2.2.2.2.2.2.2.2.2.2.1 | exact hdH.out.2.2.2.2.2.2.2.2.2.2.2.2.2 | exact hdH.out.2.2.2.2.2.2.2.2.2.2.2.2.2.1 | exact hdH.out.2.2.2.2.2.2.2.2.2.2.2.2.2.2 | exact hdH.out.2.2.2.2.2.2.2.2.2.2.2.2.2.2.1 | exact hdH.out.2.2.2.2.2.2.2.2.2.2.2.2.2.2.2 | exact hdH.out.2.2.2.2.2.2.2.2.2.2.2.2.2.2.2.1 | exact hdH.out.2.2.2.2.2.2.2.2.2.2.2.2.2.2.2.2)
      go_simp
      exact hK _ _ ⟨v11, v12, v13, v14, v15, v16, v17, _, _, v20, v21, v22, v23, v24, v25, v26, v27, v28, v29, v30, v31, rfl, hb, (r11), (r12), (r13), (r14), (r15), (r16), (r17), (fun _ => rfl), (fun _ => rfl), (r20), (r21), (r22), (r23), (r24), (r25), (r26), (r27), (r28), (r29), (r30), (r31), (k31_30)⟩
    by_cases hie : i = 9
    · subst hie
      obtain rfl := Option.some.inj ho
      simp [Region.binds] at hd
      try (have hdH := Lib.hid hd; clear hd)
      obtain rfl := r14 (by first | exact hdH.out | exact hdH.out.1 | exact hdH.out.2 | exact hdH.out.2.1 | exact hdH.out.2.2 | exact hdH.out.2.2.1 | exact hdH.out.2.2.2 | exact hdH.out.2.2.2.1 | exact hdH.out.2.2.2.2 | exact hdH.out.2.2.2.2.1 | exact hdH.out.2.2.2.2.2 | exact hdH.out.2.2.2.2.2.1 | exact hdH.out.2.2.2.2.2.2 | exact hdH.out.2.2.2.2.2.2.1 | exact hdH.out.2.2.2.2.2.2.2 | exact hdH.out.2.2.2.2.2.2.2.1 | exact hdH.out.2.2.2.2.2.2.2.2 | exact hdH.out.2.2.2.2.2.2.2.2.1 | exact hdH.out.2.2.2.2.2.2.2.2.2 | exact hdH.out.2.2.2.2.2.2.2.2.2.1 | exact hdH.out.2.2.2.2.2.2.2.2.2.2 | exact hdH.out.2.2.2.2.2.2.2.2.2.2.1 | exact hdH.out.2.2.2.2.2.2.2.2.2.2.2 | exact hdH.out.2.2.2.2.2.2.2.2.2.2.2.1 | exact hdH.out.2.2.2.2.2.2.2.2.2.2.2.2 | exact hdH.out.2.2.2.2.2.2.2.2.2.2.2.2.1 | exact hdH.out.2.2.2.2.2.2.2.2.2.2.2.2.2 | exact hdH.out.2.2.2.2.2.2.2.2.2.2.2.2.2.1 | exact hdH.out.2.2.2.2.2.2.2.2.2.2.2.2.2.2 | exact hdH.out.2.2.2.2.2.2.2.2.2.2.2.2.2.2.1 | exact hdH.out.2.2.2.2.2.2.2.2.2.2.2.2.2.2.2 | exact hdH.out.2.2.2.2.2.2.2.2.2.2.2.2.2.2.2.1 | exact hdH.out.2.2.2.2.2.2.2.2.2.2.2.2.2.2.2.2)
      obtain rfl := r19 (by first | exact hdH.out | exact hdH.out.1 | exact hdH.out.2 | exact hdH.out.2.1 | exact hdH.out.2.2 | exact hdH.out.2.2.1 | exact hdH.out.2.2.2 | exact hdH.out.2.2.2.1 | exact hdH.out.2.2.2.2 | exact hdH.out.2.2.2.2.1 | exact hdH.out.2.2.2.2.2 | exact hdH.out.2.2.2.2.2.1 | exact hdH.out.2.2.2.2.2.2 | exact hdH.out.2.2.2.2.2.2.1 | exact hdH.out.2.2.2.2.2.2.2 | exact hdH.out.2.2.2.2.2.2.2.1 | exact hdH.out.2.2.2.2.2.2.2.2 | exact hdH.out.2.2.2.2.2.2.2.2.1 | exact hdH.out.2.2.2.2.2.2.2.2.2 | exact hdH.out.2.2.2.2.2.2.2.2.2.1 | exact hdH.out.2.2.2.2.2.2.2.2.2.2 | exact hdH.out.2.2.2.2.2.2.2.2.2.2.1 | exact hdH.out.2.2.2.2.2.2.2.2.2.2.2 | exact hdH.out.2.2.2.2.2.2.2.2.2.2.2.1 | exact hdH.out.2.2.2.2.2.2.2.2.2.2.2.2 | exact hdH.out.2.2.2.2.2.2.2.2.2.2.2.2.1 | exact hdH.out.2.2.2.2.2.2.2.2.2.2.2.2.2 | exact hdH.out.2.2.2.2.2.2.2.2.2.2.2.2.2.1 | exact hdH.out.2.2.2.2.2.2.2.2.2.2.2.2.2.2 | exact hdH.out.2.2.2.2.2.2.2.2.2.2.2.2.2.2.1 | exact hdH.out.2.2.2.2.2.2.2.2.2.2.2.2.2.2.2 | exact hdH.out.2.2.2.2.2.2.2.2.2.2.2.2.2.2.2.1 | exact hdH.out.2.2.2.2.2.2.2.2.2.2.2.2.2.2.2.2)
      go_simp
      go_at_call 24; (with_reducible refine (picked_below b 65536 q _ Q h3.1 h3.2 (by decide) (by decide)).mono ?_); rintro e w2 ⟨rfl, hb2⟩
      exact hK _ _ ⟨v11, v12, v13, _, v15, v16, v17, v18, _, _, v21, v22, v23, v24, v25, v26, v27, v28, v29, v30, v31, rfl, below_step hb hb2, (r11), (r12), (r13), (fun _ => rfl), (r15), (r16), (r17), (r18), (fun _ => rfl), (fun _ => rfl), (r21), (r22), (r23), (r24), (r25), (r26), (r27), (r28), (r29), (fun h => NBytes.below (r30 h) hb2), (r31), (k31_30)⟩
    by_cases hie : i = 10
    · subst hie
      obtain rfl := Option.some.inj ho
      simp [Region.binds] at hd
      try (have hdH := Lib.hid hd; clear hd)
      obtain rfl := r20 (by first | exact hdH.out | exact hdH.out.1 | exact hdH.out.2 | exact hdH.out.2.1 | exact hdH.out.2.2 | exact hdH.out.2.2.1 | exact hdH.out.2.2.2 | exact hdH.out.2.2.2.1 | exact hdH.out.2.2.2.2 | exact hdH.out.2.2.2.2.1 | exact hdH.out.2.2.2.2.2 | exact hdH.out.2.2.2.2.2.1 | exact hdH.out.2.2.2.2.2.2 | exact hdH.out.2.2.2.2.2.2.1 | exact hdH.out.2.2.2.2.2.2.2 | exact hdH.out.2.2.2.2.2.2.2.1 | exact hdH.out.2.2.2.2.2.2.2.2 | exact hdH.out.2.2.2.2.2.2.2.2.1 | exact hdH.out.2.2.2.2.2.2.2.2.2 | exact hdH.out.2.2.2.2.2.2.2.2.2.1 | exact hdH.out.2.2.2.2.2.2.2.2.2.2 | exact hdH.out.2.2.2.2.2.2.2.2.2.2.1 | exact hdH.out.2.2.2.2.2.2.2.2.2.2.2 | exact hdH.out.2.2.2.2.2.2.2.2.2.2.2.1 | exact hdH.out.2.2.2.2.2.2.2.2.2.2.2.2 | exact hdH.out.2.2.2.2.2.2.2.2.2.2.2.2.1 | exact hdH.out.2.2.2.2.2.2.2.2.2.2.2.2.2 | exact hdH.out.2.2.2.2.2.2.2.2.2.2.2.2.2.1 | exact hdH.out.2.2.2.2.2.2.2.2.2.2.2.2.2.2 | exact hdH.out.2.2.2.2.2.2.2.2.2.2.2.2.2.2.1 | exact hdH.out.2.2.2.2.2.2.2.2.2.2.2.2.2.2.2 | exact hdH.out.2.2.2.2.2.2.2.2.2.2.2.2.2.2.2.1 | exact hdH.out.2.2.2.2.2.2.2.2.2.2.2.2.2.2.2.2)
      go_simp
      exact hK _ _ ⟨v11, v12, v13, v14, v15, v16, v17, v18, v19, _, _, v22, v23, v24, v25, v26, v27, v28, v29, v30, v31, rfl, hb, (r11), (r12), (r13), (r14), (r15), (r16), (r17), (r18), (r19), (fun _ => rfl), (fun _ => rfl), (r22), (r23), (r24), (r25), (r26), (r27), (r28), (r29), (r30), (r31), (k31_30)⟩
    by_cases hie : i = 11
    · subst hie
      obtain rfl := Option.some.inj ho
      simp [Region.binds] at hd
      try (have hdH := Lib.hid hd; clear hd)
      obtain rfl := r17 (by first | exact hdH.out | exact hdH.out.1 | exact hdH.out.2 | exact hdH.out.2.1 | exact hdH.out.2.2 | exact hdH.out.2.2.1 | exact hdH.out.2.2.2 | exact hdH.out.2.2.2.1 | exact hdH.out.2.2.2.2 | exact hdH.out.2.2.2.2.1 | exact hdH.out.2.2.2.2.2 | exact hdH.out.2.2.2.2.2.1 | exact hdH.out.2.2.2.2.2.2 | exact hdH.out.2.2.2.2.2.2.1 | exact hdH.out.2.2.2.2.2.2.2 | exact hdH.out.2.2.2.2.2.2.2.1 | exact hdH.out.2.2.2.2.2.2.2.2 | exact hdH.out.2.2.2.2.2.2.2.2.1 | exact hdH.out.2.2.2.2.2.2.2.2.2 | exact hdH.out.2.2.2.2.2.2.2.2.2.1 | exact hdH.out.2.2.2.2.2.2.2.2.2.2 | exact hdH.out.2.2.2.2.2.2.2.2.2.2.1 | exact hdH.out.2.2.2.2.2.2.2.2.2.2.2 | exact hdH.out.2.2.2.2.2.2.2.2.2.2.2.1 | exact hdH.out.2.2.2.2.2.2.2.2.2.2.2.2 | exact hdH.out.2.2.2.2.2.2.2.2.2.2.2.2.1 | exact hdH.out.2.2.2.2.2.2.2.2.2.2.2.2.2 | exact hdH.out.2.2.2.2.2.2.2.2.2.2.2.2.2.1 | exact hdH.out.2.2.2.2.2.2.2.2.2.2.2.2.2.2 | exact hdH.out.2.2.2.2.2.2.2.2.2.2.2.2.2.2.1 | exact hdH.out.2.2.2.2.2.2.2.2.2.2.2.2.2.2.2 | exact hdH.out.2.2.2.2.2.2.2.2.2.2.2.2.2.2.2.1 | exact hdH.out.2.2.2.2.2.2.2.2.2.2.2.2.2.2.2.2)
      obtain rfl := r21 (by first | exact hdH.out | exact hdH.out.1 | exact hdH.out.2 | exact hdH.out.2.1 | exact hdH.out.2.2 | exact hdH.out.2.2.1 | exact hdH.out.2.2.2 | exact hdH.out.2.2.2.1 | exact hdH.out.2.2.2.2 | exact hdH.out.2.2.2.2.1 | exact hdH.out.2.2.2.2.2 | exact hdH.out.2.2.2.2.2.1 | exact hdH.out.2.2.2.2.2.2 | exact hdH.out.2.2.2.2.2.2.1 | exact hdH.out.2.2.2.2.2.2.2 | exact hdH.out.2.2.2.2.2.2.2.1 | exact hdH.out.2.2.2.2.2.2.2.2 | exact hdH.out.2.2.2.2.2.2.2.2.1 | exact hdH.out.2.2.2.2.2.2.2.2.2 | exact hdH.out.2.2.2.2.2.2.2.2.2.1 | exact hdH.out.2.2.2.2.2.2.2.2.2.2 | exact hdH.out.2.2.2.2.2.2.2.2.2.2.1 | exact hdH.out.2.2.2.2.2.2.2.2.2.2.2 | exact hdH.out.2.2.2.2.2.2.2.2.2.2.2.1 | exact hdH.out.2.2.2.2.2.2.2.2.2.2.2.2 | exact hdH.out.2.2.2.2.2.2.2.2.2.2.2.2.1 | exact hdH.out.2.2.2.2.2.2.2.2.2.2.2.2.2 | exact hdH.out.2.2.2.2.2.2.2.2.2.2.2.2.2.1 | exact hdH.out.2.2.2.2.2.2.2.2.2.2.2.2.2.2 | exact hdH.out.2.2.2.2.2.2.2.2.2.2.2.2.2.2.1 | exact hdH.out.2.2.2.2.2.2.2.2.2.2.2.2.2.2.2 | exact hdH.out.2.2.2.2.2.2.2.2.2.2.2.2.2.2.2.1 | exact hdH.out.2.2.2.2.2.2.2.2.2.2.2.2.2.2.2.2)
      go_simp
      exact hK _ _ ⟨v11, v12, v13, v14, v15, v16, _, v18, v19, v20, _, _, v23, v24, v25, v26, v27, v28, v29, v30, v31, rfl, hb, (r11), (r12), (r13), (r14), (r15), (r16), (fun _ => rfl), (r18), (r19), (r20), (fun _ => rfl), (fun _ => rfl), (r23), (r24), (r25), (r26), (r27), (r28), (r29), (r30), (r31), (k31_30)⟩
    by_cases hie : i = 12
    · subst hie
      obtain rfl := Option.some.inj ho
      simp [Region.binds] at hd
      try (have hdH := Lib.hid hd; clear hd)
      go_simp
      exact hK _ _ ⟨v11, v12, v13, v14, v15, v16, v17, v18, v19, v20, v21, v22, _, v24, v25, v26, v27, v28, v29, v30, v31, rfl, hb, (r11), (r12), (r13), (r14), (r15), (r16), (r17), (r18), (r19), (r20), (r21), (r22), (fun _ => rfl), (r24), (r25), (r26), (r27), (r28), (r29), (r30), (r31), (k31_30)⟩
    by_cases hie : i = 13
    · subst hie
      obtain rfl := Option.some.inj ho
      simp [Region.binds] at hd
      try (have hdH := Lib.hid hd; clear hd)
      obtain rfl := r23 (by first | exact hdH.out | exact hdH.out.1 | exact hdH.out.2 | exact hdH.out.2.1 | exact hdH.out.2.2 | exact hdH.out.2.2.1 | exact hdH.out.2.2.2 | exact hdH.out.2.2.2.1 | exact hdH.out.2.2.2.2 | exact hdH.out.2.2.2.2.1 | exact hdH.out.2.2.2.2.2 | exact hdH.out.2.2.2.2.2.1 | exact hdH.out.2.2.2.2.2.2 | exact hdH.out.2.2.2.2.2.2.1 | exact hdH.out.2.2.2.2.2.2.2 | exact hdH.out.2.2.2.2.2.2.2.1 | exact hdH.out.2.2.2.2.2.2.2.2 | exact hdH.out.2.2.2.2.2.2.2.2.1 | exact hdH.out.2.2.2.2.2.2.2.2.2 | exact hdH.out.2.2.2.2.2.2.2.2.2.1 | exact hdH.out.2.2.2.2.2.2.2.2.2.2 | exact hdH.out.2.2.2.2.2.2.2.2.2.2.1 | exact hdH.out.2.2.2.2.2.2.2.2.2.2.2 | exact hdH.out.2.2.2.2.2.2.2.2.2.2.2.1 | exact hdH.out.2.2.2.2.2.2.2.2.2.2.2.2 | exact hdH.out.2.2.2.2.2.2.2.2.2.2.2.2.1 | exact hdH.out.2.2.2.2.2.2.2.2.2.2.2.2.2 | exact hdH.out.2.2.2.2.2.2.2.2.2.2.2.2.2.1 | exact hdH.out.2.2.2.2.2.2.2.2.2.2.2.2.2.2 | exact hdH.out.2.2.2.2.2.2.2.2.2.2.2.2.2.2.1 | exact hdH.out.2.2.2.2.2.2.2.2.2.2.2.2.2.2.2 | exact hdH.out.2.2.2.2.2.2.2.2.2.2.2.2.2.2.2.1 | exact hdH.out.2.2.2.2.2.2.2.2.2.2.2.2.2.2.2.2)
      go_simp
      exact hK _ _ ⟨v11, v12, v13, v14, v15, v16, v17, v18, v19, v20, v21, v22, _, _, v25, v26, v27, v28, v29, v30, v31, rfl, hb, (r11), (r12), (r13), (r14), (r15), (r16), (r17), (r18), (r19), (r20), (r21), (r22), (fun _ => rfl), (fun _ => rfl), (r25), (r26), (r27), (r28), (r29), (r30), (r31), (k31_30)⟩
    by_cases hie : i = 14
    · subst hie
      obtain rfl := Option.some.inj ho
      simp [Region.binds] at hd
      try (have hdH := Lib.hid hd; clear hd)
      go_simp
      exact hK _ _ ⟨v11, v12, v13, v14, v15, v16, v17, v18, v19, v20, v21, v22, v23, v24, _, v26, v27, v28, v29, v30, v31, rfl, hb, (r11), (r12), (r13), (r14), (r15), (r16), (r17), (r18), (r19), (r20), (r21), (r22), (r23), (r24), (fun _ => rfl), (r26), (r27), (r28), (r29), (r30), (r31), (k31_30)⟩
    by_cases hie : i = 15
    · subst hie
      obtain rfl := Option.some.inj ho
      simp [Region.binds] at hd
      try (have hdH := Lib.hid hd; clear hd)
      obtain rfl := r25 (by first | exact hdH.out | exact hdH.out.1 | exact hdH.out.2 | exact hdH.out.2.1 | exact hdH.out.2.2 | exact hdH.out.2.2.1 | exact hdH.out.2.2.2 | exact hdH.out.2.2.2.1 | exact hdH.out.2.2.2.2 | exact hdH.out.2.2.2.2.1 | exact hdH.out.2.2.2.2.2 | exact hdH.out.2.2.2.2.2.1 | exact hdH.out.2.2.2.2.2.2 | exact hdH.out.2.2.2.2.2.2.1 | exact hdH.out.2.2.2.2.2.2.2 | exact hdH.out.2.2.2.2.2.2.2.1 | exact hdH.out.2.2.2.2.2.2.2.2 | exact hdH.out.2.2.2.2.2.2.2.2.1 | exact hdH.out.2.2.2.2.2.2.2.2.2 | exact hdH.out.2.2.2.2.2.2.2.2.2.1 | exact hdH.out.2.2.2.2.2.2.2.2.2.2 | exact hdH.out.2.2.2.2.2.2.2.2.2.2.1 | exact hdH.out.2.2.2.2.2.2.2.2.2.2.2 | exact hdH.out.2.2.2.2.2.2.2.2.2.2.2.1 | exact hdH.out.2.2.2.2.2.2.2.2.2.2.2.2 | exact hdH.out.2.2.2.2.2.2.2.2.2.2.2.2.1 | exact hdH.out.2.2.2.2.2.2.2.2.2.2.2.2.2 | exact hdH.out.2.2.2.2.2.2.2.2.2.2.2.2.2.1 | exact hdH.out.2.2.2.2.2.2.2.2.2.2.2.2.2.2 | exact hdH.out.2.2.2.2.2.2.2.2.2.2.2.2.2.2.1 | exact hdH.out.2.2.2.2.2.2.2.2.2.2.2.2.2.2.2 | exact hdH.out.2.2.2.2.2.2.2.2.2.2.2.2.2.2.2.1 | exact hdH.out.2.2.2.2.2.2.2.2.2.2.2.2.2.2.2.2)
      go_simp
      exact hK _ _ ⟨v11, v12, v13, v14, v15, v16, v17, v18, v19, v20, v21, v22, v23, v24, _, _, v27, v28, v29, v30, v31, rfl, hb, (r11), (r12), (r13), (r14), (r15), (r16), (r17), (r18), (r19), (r20), (r21), (r22), (r23), (r24), (fun _ => rfl), (fun _ => rfl), (r27), (r28), (r29), (r30), (r31), (k31_30)⟩
    by_cases hie : i = 16
    · subst hie
      obtain rfl := Option.some.inj ho
      simp [Region.binds] at hd
      try (have hdH := Lib.hid hd; clear hd)
      obtain rfl := r26 (by first | exact hdH.out | exact hdH.out.1 | exact hdH.out.2 | exact hdH.out.2.1 | exact hdH.out.2.2 | exact hdH.out.2.2.1 | exact hdH.out.2.2.2 | exact hdH.out.2.2.2.1 | exact hdH.out.2.2.2.2 | exact hdH.out.2.2.2.2.1 | exact hdH.out.2.2.2.2.2 | exact hdH.out.2.2.2.2.2.1 | exact hdH.out.2.2.2.2.2.2 | exact hdH.out.2.2.2.2.2.2.1 | exact hdH.out.2.2.2.2.2.2.2 | exact hdH.out.2.2.2.2.2.2.2.1 | exact hdH.out.2.2.2.2.2.2.2.2 | exact hdH.out.2.2.2.2.2.2.2.2.1 | exact hdH.out.2.2.2.2.2.2.2.2.2 | exact hdH.out.2.2.2.2.2.2.2.2.2.1 | exact hdH.out.2.2.2.2.2.2.2.2.2.2 | exact hdH.out.2.2.2.2.2.2.2.2.2.2.1 | exact hdH.out.2.2.2.2.2.2.2.2.2.2.2 | exact hdH.out.2.2.2.2.2.2.2.2.2.2.2.1 | exact hdH.out.2.2.2.2.2.2.2.2.2.2.2.2 | exact hdH.out.2.2.2.2.2.2.2.2.2.2.2.2.1 | exact hdH.out.2.2.2.2.2.2.2.2.2.2.2.2.2 | exact hdH.out.2.2.2.2.2.2.2.2.2.2.2.2.2.1 | exact hdH.out.2.2.2.2.2.2.2.2.2.2.2.2.2.2 | exact hdH.out.2.2.2.2.2.2.2.2.2.2.2.2.2.2.1 | exact hdH.out.2.2.2.2.2.2.2.2.2.2.2.2.2.2.2 | exact hdH.out.2.2.2.2.2.2.2.2.2.2.2.2.2.2.2.1 | exact hdH.out.2.2.2.2.2.2.2.2.2.2.2.2.2.2.2.2)
      go_simp
      exact hK _ _ ⟨v11, v12, v13, v14, v15, v16, v17, v18, v19, v20, v21, v22, v23, v24, v25, _, _, v28, v29, v30, v31, rfl, hb, (r11), (r12), (r13), (r14), (r15), (r16), (r17), (r18), (r19), (r20), (r21), (r22), (r23), (r24), (r25), (fun _ => rfl), (fun _ => rfl), (r28), (r29), (r30), (r31), (k31_30)⟩
    by_cases hie : i = 17
    · subst hie
      obtain rfl := Option.some.inj ho
      simp [Region.binds] at hd
      try (have hdH := Lib.hid hd; clear hd)
      obtain rfl := r27 (by first | exact hdH.out | exact hdH.out.1 | exact hdH.out.2 | exact hdH.out.2.1 | exact hdH.out.2.2 | exact hdH.out.2.2.1 | exact hdH.out.2.2.2 | exact hdH.out.2.2.2.1 | exact hdH.out.2.2.2.2 | exact hdH.out.2.2.2.2.1 | exact hdH.out.2.2.2.2.2 | exact hdH.out.2.2.2.2.2.1 | exact hdH.out.2.2.2.2.2.2 | exact hdH.out.2.2.2.2.2.2.1 | exact hdH.out.2.2.2.2.2.2.2 | exact hdH.out.2.2.2.2.2.2.2.1 | exact hdH.out.2.2.2.2.2.2.2.2 | exact hdH.out.2.2.2.2.2.2.2.2.1 | exact hdH.out.2.2.2.2.2.2.2.2.2 | exact hdH.out.2.2.2.2.2.2.2.2.2.1 | exact hdH.out.2.2.2.2.2.2.2.2.2.2 | exact hdH.out.2.2.2.2.2.2.2.2.2.2.1 | exact hdH.out.2.2.2.2.2.2.2.2.2.2.2 | exact hdH.out.2.2.2.2.2.2.2.2.2.2.2.1 | exact hdH.out.2.2.2.2.2.2.2.2.2.2.2.2 | exact hdH.out.2.2.2.2.2.2.2.2.2.2.2.2.1 | exact hdH.out.2.2.2.2.2.2.2.2.2.2.2.2.2 | exact hdH.out.2.2.2.2.2.2.2.2.2.2.2.2.2.1 | exact hdH.out.2.2.2.2.2.2.2.2.2.2.2.2.2.2 | exact hdH.out.2.2.2.2.2.2.2.2.2.2.2.2.2.2.1 | exact hdH.out.2.2.2.2.2.2.2.2.2.2.2.2.2.2.2 | exact hdH.out.2.2.2.2.2.2.2.2.2.2.2.2.2.2.2.1 | exact hdH.out.2.2.2.2.2.2.2.2.2.2.2.2.2.2.2.2)
      go_simp
      exact hK _ _ ⟨v11, v12, v13, v14, v15, v16, v17, v18, v19, v20, v21, v22, v23, v24, v25, v26, _, _, v29, v30, v31, rfl, hb, (r11), (r12), (r13), (r14), (r15), (r16), (r17), (r18), (r19), (r20), (r21), (r22), (r23), (r24), (r25), (r26), (fun _ => rfl), (fun _ => rfl), (r29), (r30), (r31), (k31_30)⟩
    by_cases hie : i = 18
    · subst hie
      obtain rfl := Option.some.inj ho
      simp [Region.binds] at hd
      try (have hdH := Lib.hid hd; clear hd)
      obtain rfl := r24 (by first | exact hdH.out | exact hdH.out.1 | exact hdH.out.2 | exact hdH.out.2.1 | exact hdH.out.2.2 | exact hdH.out.2.2.1 | exact hdH.out.2.2.2 | exact hdH.out.2.2.2.1 | exact hdH.out.2.2.2.2 | exact hdH.out.2.2.2.2.1 | exact hdH.out.2.2.2.2.2 | exact hdH.out.2.2.2.2.2.1 | exact hdH.out.2.2.2.2.2.2 | exact hdH.out.2.2.2.2.2.2.1 | exact hdH.out.2.2.2.2.2.2.2 | exact hdH.out.2.2.2.2.2.2.2.1 | exact hdH.out.2.2.2.2.2.2.2.2 | exact hdH.out.2.2.2.2.2.2.2.2.1 | exact hdH.out.2.2.2.2.2.2.2.2.2 | exact hdH.out.2.2.2.2.2.2.2.2.2.1 | exact hdH.out.2.2.2.2.2.2.2.2.2.2 | exact hdH.out.2.2.2.2.2.2.2.2.2.2.1 | exact hdH.out.2.2.2.2.2.2.2.2.2.2.2 | exact hdH.out.2.2.2.2.2.2.2.2.2.2.2.1 | exact hdH.out.2.2.2.2.2.2.2.2.2.2.2.2 | exact hdH.out.2.2.2.2.2.2.2.2.2.2.2.2.1 | exact hdH.out.2.2.2.2.2.2.2.2.2.2.2.2.2 | exact hdH.out.2.2.2.2.2.2.2.2.2.2.2.2.2.1 | exact hdH.out.2.2.2.2.2.2.2.2.2.2.2.2.2.2 | exact hdH.out.2.2.2.2.2.2.2.2.2.2.2.2.2.2.1 | exact hdH.out.2.2.2.2.2.2.2.2.2.2.2.2.2.2.2 | exact hdH.out.2.2.2.2.2.2.2.2.2.2.2.2.2.2.2.1 | exact hdH.out.2.2.2.2.2.2.2.2.2.2.2.2.2.2.2.2)
      obtain rfl := r28 (by first | exact hdH.out | exact hdH.out.1 | exact hdH.out.2 | exact hdH.out.2.1 | exact hdH.out.2.2 | exact hdH.out.2.2.1 | exact hdH.out.2.2.2 | exact hdH.out.2.2.2.1 | exact hdH.out.2.2.2.2 | exact hdH.out.2.2.2.2.1 | exact hdH.out.2.2.2.2.2 | exact hdH.out.2.2.2.2.2.1 | exact hdH.out.2.2.2.2.2.2 | exact hdH.out.2.2.2.2.2.2.1 | exact hdH.out.2.2.2.2.2.2.2 | exact hdH.out.2.2.2.2.2.2.2.1 | exact hdH.out.2.2.2.2.2.2.2.2 | exact hdH.out.2.2.2.2.2.2.2.2.1 | exact hdH.out.2.2.2.2.2.2.2.2.2 | exact hdH.out.2.2.2.2.2.2.2.2.2.1 | exact hdH.out.2.2.2.2.2.2.2.2.2.2 | exact hdH.out.2.2.2.2.2.2.2.2.2.2.1 | exact hdH.out.2.2.2.2.2.2.2.2.2.2.2 | exact hdH.out.2.2.2.2.2.2.2.2.2.2.2.1 | exact hdH.out.2.2.2.2.2.2.2.2.2.2.2.2 | exact hdH.out.2.2.2.2.2.2.2.2.2.2.2.2.1 | exact hdH.out.2.2.2.2.2.2.2.2.2.2.2.2.2 | exact hdH.out.2.2.2.2.2.2.2.2.2.2.2.2.2.1 | exact hdH.out.2.2.2.2.2.2.2.2.2.2.2.2.2.2 | exact hdH.out.2.2.2.2.2.2.2.2.2.2.2.2.2.2.1 | exact hdH.out.2.2.2.2.2.2.2.2.2.2.2.2.2.2.2 | exact hdH.out.2.2.2.2.2.2.2.2.2.2.2.2.2.2.2.1 | exact hdH.out.2.2.2.2.2.2.2.2.2.2.2.2.2.2.2.2)
      go_simp
      exact hK _ _ ⟨v11, v12, v13, v14, v15, v16, v17, v18, v19, v20, v21, v22, v23, _, v25, v26, v27, _, _, v30, v31, rfl, hb, (r11), (r12), (r13), (r14), (r15), (r16), (r17), (r18), (r19), (r20), (r21), (r22), (r23), (fun _ => rfl), (r25), (r26), (r27), (fun _ => rfl), (fun _ => rfl), (r30), (r31), (k31_30)⟩
    by_cases hie : i = 19
    · subst hie
      obtain rfl := Option.some.inj ho
      simp [Region.binds] at hd
      try (have hdH := Lib.hid hd; clear hd)
      obtain rfl := r29 (by first | exact hdH.out | exact hdH.out.1 | exact hdH.out.2 | exact hdH.out.2.1 | exact hdH.out.2.2 | exact hdH.out.2.2.1 | exact hdH.out.2.2.2 | exact hdH.out.2.2.2.1 | exact hdH.out.2.2.2.2 | exact hdH.out.2.2.2.2.1 | exact hdH.out.2.2.2.2.2 | exact hdH.out.2.2.2.2.2.1 | exact hdH.out.2.2.2.2.2.2 | exact hdH.out.2.2.2.2.2.2.1 | exact hdH.out.2.2.2.2.2.2.2 | exact hdH.out.2.2.2.2.2.2.2.1 | exact hdH.out.2.2.2.2.2.2.2.2 | exact hdH.out.2.2.2.2.2.2.2.2.1 | exact hdH.out.2.2.2.2.2.2.2.2.2 | exact hdH.out.2.2.2.2.2.2.2.2.2.1 | exact hdH.out.2.2.2.2.2.2.2.2.2.2 | exact hdH.out.2.2.2.2.2.2.2.2.2.2.1 | exact hdH.out.2.2.2.2.2.2.2.2.2.2.2 | exact hdH.out.2.2.2.2.2.2.2.2.2.2.2.1 | exact hdH.out.2.2.2.2.2.2.2.2.2.2.2.2 | exact hdH.out.2.2.2.2.2.2.2.2.2.2.2.2.1 | exact hdH.out.2.2.2.2.2.2.2.2.2.2.2.2.2 | exact hdH.out.2.2.2.2.2.2.2.2.2.2.2.2.2.1 | exact hdH.out.2.2.2.2.2.2.2.2.2.2.2.2.2.2 | exact hdH.out.2.2.2.2.2.2.2.2.2.2.2.2.2.2.1 | exact hdH.out.2.2.2.2.2.2.2.2.2.2.2.2.2.2.2 | exact hdH.out.2.2.2.2.2.2.2.2.2.2.2.2.2.2.2.1 | exact hdH.out.2.2.2.2.2.2.2.2.2.2.2.2.2.2.2.2)
      obtain ⟨p3, w2, e2, ho, hb2⟩ := hcv.out w1
      go_simp
      exact hK _ _ ⟨v11, v12, v13, v14, v15, v16, v17, v18, v19, v20, v21, v22, v23, v24, v25, v26, v27, v28, _, _, v31, rfl, below_step hb hb2, (r11), (r12), (r13), (r14), (r15), (r16), (r17), (r18), (r19), (r20), (r21), (r22), (r23), (r24), (r25), (r26), (r27), (r28), (fun _ => rfl), (fun _ => ho.base hb.size), (fun h => absurd (k31_30 h) (by simp [hLi])), (fun _ => rfl)⟩
    by_cases hie : i = 20
    · subst hie
      obtain rfl := Option.some.inj ho
      simp [Region.binds] at hd
      try (have hdH := Lib.hid hd; clear hd)
      obtain rfl := r16 (by first | exact hdH.out | exact hdH.out.1 | exact hdH.out.2 | exact hdH.out.2.1 | exact hdH.out.2.2 | exact hdH.out.2.2.1 | exact hdH.out.2.2.2 | exact hdH.out.2.2.2.1 | exact hdH.out.2.2.2.2 | exact hdH.out.2.2.2.2.1 | exact hdH.out.2.2.2.2.2 | exact hdH.out.2.2.2.2.2.1 | exact hdH.out.2.2.2.2.2.2 | exact hdH.out.2.2.2.2.2.2.1 | exact hdH.out.2.2.2.2.2.2.2 | exact hdH.out.2.2.2.2.2.2.2.1 | exact hdH.out.2.2.2.2.2.2.2.2 | exact hdH.out.2.2.2.2.2.2.2.2.1 | exact hdH.out.2.2.2.2.2.2.2.2.2 | exact hdH.out.2.2.2.2.2.2.2.2.2.1 | exact hdH.out.2.2.2.2.2.2.2.2.2.2 | exact hdH.out.2.2.2.2.2.2.2.2.2.2.1 | exact hdH.out.2.2.2.2.2.2.2.2.2.2.2 | exact hdH.out.2.2.2.2.2.2.2.2.2.2.2.1 | exact hdH.out.2.2.2.2.2.2.2.2.2.2.2.2 | exact hdH.out.2.2.2.2.2.2.2.2.2.2.2.2.1 | exact hdH.out.2.2.2.2.2.2.2.2.2.2.2.2.2 | exact hdH.out.2.2.2.2.2.2.2.2.2.2.2.2.2.1 | exact hdH.out.2.2.2.2.2.2.2.2.2.2.2.2.2.2 | exact hdH.out.2.2.2.2.2.2.2.2.2.2.2.2.2.2.1 | exact hdH.out.2.2.2.2.2.2.2.2.2.2.2.2.2.2.2 | exact hdH.out.2.2.2.2.2.2.2.2.2.2.2.2.2.2.2.1 | exact hdH.out.2.2.2.2.2.2.2.2.2.2.2.2.2.2.2.2)
      obtain rfl := r22 (by first | exact hdH.out | exact hdH.out.1 | exact hdH.out.2 | exact hdH.out.2.1 | exact hdH.out.2.2 | exact hdH.out.2.2.1 | exact hdH.out.2.2.2 | exact hdH.out.2.2.2.1 | exact hdH.out.2.2.2.2 | exact hdH.out.2.2.2.2.1 | exact hdH.out.2.2.2.2.2 | exact hdH.out.2.2.2.2.2.1 | exact hdH.out.2.2.2.2.2.2 | exact hdH.out.2.2.2.2.2.2.1 | exact hdH.out.2.2.2.2.2.2.2 | exact hdH.out.2.2.2.2.2.2.2.1 | exact hdH.out.2.2.2.2.2.2.2.2 | exact hdH.out.2.2.2.2.2.2.2.2.1 | exact hdH.out.2.2.2.2.2.2.2.2.2 | exact hdH.out.2.2.2.2.2.2.2.2.2.1 | exact hdH.out.2.2.2.2.2.2.2.2.2.2 | exact hdH.out.2.2.2.2.2.2.2.2.2.2.1 | exact hdH.out.2.2.2.2.2.2.2.2.2.2.2 | exact hdH.out.2.2.2.2.2.2.2.2.2.2.2.1 | exact hdH.out.2.2.2.2.2.2.2.2.2.2.2.2 | exact hdH.out.2.2.2.2.2.2.2.2.2.2.2.2.1 | exact hdH.out.2.2.2.2.2.2.2.2.2.2.2.2.2 | exact hdH.out.2.2.2.2.2.2.2.2.2.2.2.2.2.1 | exact hdH.out.2.2.2.2.2.2.2.2.2.2.2.2.2.2 | exact hdH.out.2.2.2.2.2.2.2.2.2.2.2.2.2.2.1 | exact hdH.out.2.2.2.2.2.2.2.2.2.2.2.2.2.2.2 | exact hdH.out.2.2.2.2.2.2.2.2.2.2.2.2.2.2.2.1 | exact hdH.out.2.2.2.2.2.2.2.2.2.2.2.2.2.2.2.2)
      obtain ⟨_, _, _, rfl⟩ := NBytes.slice (r30 (by first | exact hdH.out | exact hdH.out.1 | exact hdH.out.2 | exact hdH.out.2.1 | exact hdH.out.2.2 | exact hdH.out.2.2.1 | exact hdH.out.2.2.2 | exact hdH.out.2.2.2.1 | exact hdH.out.2.2.2.2 | exact hdH.out.2.2.2.2.1 | exact hdH.out.2.2.2.2.2 | exact hdH.out.2.2.2.2.2.1 | exact hdH.out.2.2.2.2.2.2 | exact hdH.out.2.2.2.2.2.2.1 | exact hdH.out.2.2.2.2.2.2.2 | exact hdH.out.2.2.2.2.2.2.2.1 | exact hdH.out.2.2.2.2.2.2.2.2 | exact hdH.out.2.2.2.2.2.2.2.2.1 | exact hdH.out.2.2.2.2.2.2.2.2.2 | exact hdH.out.2.2.2.2.2.2.2.2.2.1 | exact hdH.out.2.2.2.2.2.2.2.2.2.2 | exact hdH.out.2.2.2.2.2.2.2.2.2.2.1 | exact hdH.out.2.2.2.2.2.2.2.2.2.2.2 | exact hdH.out.2.2.2.2.2.2.2.2.2.2.2.1 | exact hdH.out.2.2.2.2.2.2.2.2.2.2.2.2 | exact hdH.out.2.2.2.2.2.2.2.2.2.2.2.2.1 | exact hdH.out.2.2.2.2.2.2.2.2.2.2.2.2.2 | exact hdH.out.2.2.2.2.2.2.2.2.2.2.2.2.2.1 | exact hdH.out.2.2.2.2.2.2.2.2.2.2.2.2.2.2 | exact hdH.out.2.2.2.2.2.2.2.2.2.2.2.2.2.2.1 | exact hdH.out.2.2.2.2.2.2.2.2.2.2.2.2.2.2.2 | exact hdH.out.2.2.2.2.2.2.2.2.2.2.2.2.2.2.2.1 | exact hdH.out.2.2.2.2.2.2.2.2.2.2.2.2.2.2.2.2))
      go_simp
      exact hK _ _ ⟨v11, v12, v13, v14, v15, _, v17, v18, v19, v20, v21, _, v23, v24, v25, v26, v27, v28, v29, _, _, rfl, hb, (r11), (r12), (r13), (r14), (r15), (fun _ => rfl), (r17), (r18), (r19), (r20), (r21), (fun _ => rfl), (r23), (r24), (r25), (r26), (r27), (r28), (r29), (r30), (fun _ => rfl), (fun _ => (by first | exact hdH.out | exact hdH.out.1 | exact hdH.out.2 | exact hdH.out.2.1 | exact hdH.out.2.2 | exact hdH.out.2.2.1 | exact hdH.out.2.2.2 | exact hdH.out.2.2.2.1 | exact hdH.out.2.2.2.2 | exact hdH.out.2.2.2.2.1 | exact hdH.out.2.2.2.2.2 | exact hdH.out.2.2.2.2.2.1 | exact hdH.out.2.2.2.2.2.2 | exact hdH.out.2.2.2.2.2.2.1 | exact hdH.out.2.2.2.2.2.2.2 | exact hdH.out.2.2.2.2.2.2.2.1 | exact hdH.out.2.2.2.2.2.2.2.2 | exact hdH.out.2.2.2.2.2.2.2.2.1 | exact hdH.out.2.2.2.2.2.2.2.2.2 | exact hdH.out.2.2.2.2.2.2.2.2.2.1 | exact hdH.out.2.2.2.2.2.2.2.2.2.2 | exact hdH.out.2.2.2.2.2.2.2.2.2.2.1 | exact hdH.out.2.2.2.2.2.2.2.2.2.2.2 | exact hdH.out.2.2.2.2.2.2.2.2.2.2.2.1 | exact hdH.out.2.2.2.2.2.2.2.2.2.2.2.2 | exact hdH.out.2.2.2.2.2.2.2.2.2.2.2.2.1 | exact hdH.out.2.2.2.2.2.2.2.2.2.2.2.2.2 | exact hdH.out.2.2.2.2.2.2.2.2.2.2.2.2.2.1 | exact hdH.out.2.2.2.2.2.2.2.2.2.2.2.2.2.2 | exact hdH.out.2.2.2.2.2.2.2.2.2.2.2.2.2.2.1 | exact hdH.out.2.2.2.2.2.2.2.2.2.2.2.2.2.2.2 | exact hdH.out.2.2.2.2.2.2.2.2.2.2.2.2.2.2.2.1 | exact hdH.out.2.2.2.2.2.2.2.2.2.2.2.2.2.2.2.2))⟩
    exact absurd hi (by omega)
  intro L ac w1 hall ⟨v11, v12, v13, v14, v15, v16, v17, v18, v19, v20, v21, v22, v23, v24, v25, v26, v27, v28, v29, v30, v31, ha, hb, r11, r12, r13, r14, r15, r16, r17, r18, r19, r20, r21, r22, r23, r24, r25, r26, r27, r28, r29, r30, r31, k31_30⟩
  subst ha
  have n30 := r30 (hall 19 (by decide))
  clear r30
  clear k31_30
  obtain rfl := r11 (hall 0 (by decide))
  clear r11
  obtain rfl := r12 (hall 1 (by decide))
  clear r12
  obtain rfl := r13 (hall 2 (by decide))
  clear r13
  obtain rfl := r14 (hall 3 (by decide))
  clear r14
  obtain rfl := r15 (hall 4 (by decide))
  clear r15
  obtain rfl := r16 (hall 5 (by decide))
  clear r16
  obtain rfl := r17 (hall 6 (by decide))
  clear r17
  obtain rfl := r18 (hall 7 (by decide))
  clear r18
  obtain rfl := r19 (hall 8 (by decide))
  clear r19
  obtain rfl := r20 (hall 9 (by decide))
  clear r20
  obtain rfl := r21 (hall 10 (by decide))
  clear r21
  obtain rfl := r22 (hall 11 (by decide))
  clear r22
  obtain rfl := r23 (hall 12 (by decide))
  clear r23
  obtain rfl := r24 (hall 13 (by decide))
  clear r24
  obtain rfl := r25 (hall 14 (by decide))
  clear r25
  obtain rfl := r26 (hall 15 (by decide))
  clear r26
  obtain rfl := r27 (hall 16 (by decide))
  clear r27
  obtain rfl := r28 (hall 17 (by decide))
  clear r28
  obtain rfl := r29 (hall 18 (by decide))
  clear r29
  obtain rfl := r31 (hall 20 (by decide))
  clear r31
  clear hall L
  have hHeld := hb.mono (show w.heap.size + 1 ≤ w0.heap.size by first | omega | (simp; omega))
  obtain ⟨a30, m30, c30, rfl⟩ := n30.slice
  have e1 : ((167903232 + p : Nat) : Int) = 167903232 + (p : Int) := by omega
  have e2 : ((167837696 + q : Nat) : Int) = 167837696 + (q : Int) := by omega
  have E := Lib.hid (And.intro e1 e2)
  clear e1 e2
  have hB2 := hb
  generalize h167 : (167903232 + (p : Int)) = x1 at *
  generalize h168 : (167837696 + (q : Int)) = x2 at *
  replace h167 := Lib.hid h167
  replace h168 := Lib.hid h168
  have r0 := keeps hb hc1_0
  have r1 := keeps hb hc1_1
  have r2 := keeps hb hc1_2
  have y0 := fun o => keepsF hb hs1 (hz1 o)
  refine H_one (i := 21) (by kernel_rfl) rfl (fun K hK => ?_)
  go_simp
  skip
  refine hK.out _ _ (by (try dsimp only); exact ((hHeld.setCell (Nat.le_refl _) _).setCell (Nat.le_refl _) _).setCell (Nat.le_refl _) _) (fun hHeld => ?_)
  clear hK K
  try simp only [Act.put, List.setIfInBounds_toArray, List.set, List.getElem_toArray, List.getElem_cons_zero, List.getElem_cons_succ]
  refine wpAnyH_done (by kernel_rfl) ?_ _
  go_wp2_with (fail)
  refine bodyPost_ret (v := .agg #[.int .u32 x1, .int .u32 x2, .slice a30 m30 c30]) (by simp [results, Try.results30, go_sem, r0, r1, r2]) rfl ?_
  have hWe := hw.trans (hb.mono hw.size)
  have hn := (n30.stored (o := 0) (ys := [.int .u32 x1, .int .u32 x2, .slice a30 m30 c30]) (n30.apart_low hs1) rfl).base hw.size
  rw [← E.out.1, ← E.out.2] at hn ⊢
  exact ⟨_, rfl, hn, ((hWe.setCell (Nat.le_succ _) _).setCell (Nat.le_succ _) _).setCell (Nat.le_succ _) _⟩
end Go.Proofs.Ytnopdnclefopbaa
