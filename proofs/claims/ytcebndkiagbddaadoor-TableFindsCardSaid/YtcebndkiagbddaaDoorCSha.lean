/- package sha: contracts (what each function computes). -/
import Derived.Test.YtcebndkiagbddaaDoorTab
import Derived.Test.YtcebndkiagbddaaDoorShaF
namespace Go.Proofs.YtcebndkiagbddaaDoor
open Go.RowKit
set_option linter.unusedVariables false
set_option linter.unusedSimpArgs false

set_option maxRecDepth 100000 in
set_option maxHeartbeats 4000000 in
theorem cf_Pad {l : List UInt8} (hl : l.length ≤ 100000000) : Cf Tryd.prog 83 [] [.bs l] [] (.tup [.bs (bif decide (1000 < (l.length : Int)) then [] else shaPad l), .i (bif decide (1000 < (l.length : Int)) then 1 else 0)]) := by
  refine Cf.introR tabT {} D0 (by kernel_rfl) tab_ok Tryd.func83 Tryd.ntmps83 rfl rfl (D0_ok) (by kernel_rfl) ?_
  refine ⟨fun h1 => ?_, fun h1 => ?_⟩
  · skip
    have c1 := h1
    (simp only [bsX] at c1)
    repeat (refine Ob.mk ?_ ?_; (focus (((simp only [h1, cond_true, cond_false, Bool.not_true, Bool.not_false, Bool.and_true, Bool.true_and, Bool.and_false, Bool.false_and, Bool.or_true, Bool.true_or, Bool.or_false, Bool.false_or, Int.reduceToNat, UInt8.reduceOfNat]; done)))))
    trivial
  · skip
    have c1 := h1
    (simp only [bsX] at c1)
    have hp := padZ_lt l.length
    repeat (refine Ob.mk ?_ ?_; (focus (first | (simp [List.replicate_succ']; done) | (exact Eq.refl _) | (simp only [SrcE.len, Nat.zero_add, List.length_append, List.length_cons, List.length_nil]; omega))))
    refine ⟨Nat, fun k => ⟨[(0, .bs l), (4, .osl 60 (l.length + 1 + k))], [(60, .rb (l ++ 128 :: List.replicate k 0) 5 0)]⟩, fun k => k ≤ padZ l.length, fun k => padZ l.length - k, 0, by simp, ?_, fun k hx1 => ?_⟩
    · skip
      repeat (refine Ob.mk ?_ ?_; (focus (first | (simp [List.replicate_succ']; done) | (exact Eq.refl _) | (exact Nat.le_of_ble_eq_true rfl))))
      trivial
    repeat (refine Ob.mk ?_ ?_; (focus (((simp [be8_length]; omega)))))
    refine ⟨fun h2 => ?_, fun h2 => ?_⟩
    · skip
      have c2 := h2
      (simp only [bsX] at c2)
      have ht := padZ_test l.length k hx1
      repeat (refine Ob.mk ?_ ?_; (focus (first | (simp [List.replicate_succ']; done) | (simp [be8_length]; omega) | (simp only [SrcE.len, Nat.zero_add, List.length_append, List.length_cons, List.length_nil]; omega))))
      refine ⟨k + 1, (by omega), (by (simp only [SrcE.len, Nat.zero_add, List.length_append, List.length_cons, List.length_nil]; omega)), ?_⟩
      repeat (refine Ob.mk ?_ ?_; (focus (first | (simp [List.replicate_succ']; done) | (exact Eq.refl _) | (exact Nat.le_of_ble_eq_true rfl))))
      trivial
    · skip
      have c2 := h2
      (simp only [bsX] at c2)
      have ht := padZ_test l.length k hx1
      obtain rfl : k = padZ l.length := by omega
      repeat (refine Ob.mk ?_ ?_; focus (omega))
      refine ⟨Nat, fun j => ⟨[(4, .osl 60 (l.length + 1 + padZ l.length + j)), (5, .i (8 * (l.length : Int))), (6, .i (7 - (j : Int)))], [(60, .rb (l ++ 128 :: (List.replicate (padZ l.length) 0 ++ (be8 (8 * l.length)).take j)) 5 0)]⟩, fun j => j ≤ 8, fun j => 8 - j, 0, by simp, ?_, fun j hx2 => ?_⟩
      · skip
        repeat (refine Ob.mk ?_ ?_; (focus (((simp [List.replicate_succ']; done)))))
        trivial
      refine ⟨fun h3 => ?_, fun h3 => ?_⟩
      · skip
        have c3 := h3
        (simp only [bsX] at c3)
        repeat (refine Ob.mk ?_ ?_; (focus (first | (simp [List.replicate_succ']; done) | (simp [be8_length]; omega) | omega | (simp only [SrcE.len, Nat.zero_add, List.length_append, List.length_cons, List.length_nil]; omega))))
        refine ⟨j + 1, (by omega), (by (simp only [SrcE.len, Nat.zero_add, List.length_append, List.length_cons, List.length_nil]; omega)), ?_⟩
        repeat (refine Ob.mk ?_ ?_; (focus (first | (simp [List.replicate_succ']; done) | (simp [be8_length]; omega) | (exact pad_step _ _ _ _ c3) | (exact Eq.refl _) | (exact Nat.le_of_ble_eq_true rfl))))
        trivial
      · skip
        have c3 := h3
        (simp only [bsX] at c3)
        repeat (refine Ob.mk ?_ ?_; (focus (first | (simp [be8_length]; omega) | (exact pad_end _ _ c3 c1) | (exact Eq.refl _) | (simp only [h1, h2, h3, cond_true, cond_false, Bool.not_true, Bool.not_false, Bool.and_true, Bool.true_and, Bool.and_false, Bool.false_and, Bool.or_true, Bool.true_or, Bool.or_false, Bool.false_or, Int.reduceToNat, UInt8.reduceOfNat]; done) | (simp [SrcE.len]; omega))))
        trivial
set_option maxRecDepth 100000 in
set_option maxHeartbeats 4000000 in
theorem cf_rounds  : Cf Tryd.prog 96 [] [] [] (.az 64 (fun i => .u32 (K256.getD i 0))) := by
  refine Cf.introR tabT {} D0 (by kernel_rfl) tab_ok Tryd.func96 Tryd.ntmps96 rfl rfl (D0_ok) (by kernel_rfl) ?_
  repeat (refine Ob.mk ?_ ?_; focus ((exact Eq.refl _)))
  trivial
set_option maxRecDepth 100000 in
set_option maxHeartbeats 4000000 in
theorem cf_rotl {x : UInt32} {k : Int} : Cf Tryd.prog 106 [] [.u32 x, .i k] [] (.u32 (rl x k)) := by
  have h1 := and31 (UInt64.ofNat (k % 18446744073709551616).toNat)
  have h2 := sub31 _ h1
  refine Cf.introR tabT {} D0 (by kernel_rfl) tab_ok Tryd.func106 Tryd.ntmps106 rfl rfl (D0_ok) (by kernel_rfl) ?_
  repeat (refine Ob.mk ?_ ?_; (focus (first | (unfold rl; exact Eq.refl _) | (simp [SrcE.len]; omega) | (simp_all; omega))))
  trivial
set_option maxRecDepth 100000 in
set_option maxHeartbeats 4000000 in
theorem cf_down {x : UInt32} {n : Int} (h1 : 0 ≤ n) (h2 : n ≤ 32) : Cf Tryd.prog 98 [] [.u32 x, .i n] [] (.u32 (dn x n)) := by
  refine Cf.introR tabT {} D0 (by kernel_rfl) tab_ok Tryd.func98 Tryd.ntmps98 rfl rfl (D0_ok) (by kernel_rfl) ?_
  repeat (refine Ob.mk ?_ ?_; focus (omega))
  refine ⟨_, _, _, _, (@cf_rotl ?_ ?_), ?_⟩
  rotate_left 2
  repeat (refine Ob.mk ?_ ?_; focus ((exact Eq.refl _)))
  trivial
set_option maxRecDepth 100000 in
set_option maxHeartbeats 4000000 in
theorem cf_words {l : List UInt8} (hl : l.length ≤ 256) : Cf Tryd.prog 97 [] [.bs l] [] (.az 64 (fun i => .u32 ((wds l).getD i 0))) := by
  refine Cf.introR tabT {} (DR _ _ _ tabT {}) (by kernel_rfl) tab_ok Tryd.func97 Tryd.ntmps97 rfl rfl (DR_ok tab_ok (by kernel_rfl)) (by kernel_rfl) ?_
  refine ⟨Nat, fun k => ⟨[(2, .own 1002 0), (3, .own 1003 0), (9, .bs l), (10, .i (l.length : Int)), (11, .i (k : Int))], [(1002, .bz 64 (fun _ => .u32 0) 165), (1003, .bz 64 (fun i => .u32 ((wf l k).getD i 0)) 165)]⟩, fun k => k ≤ l.length, fun k => l.length - k, 0, by simp, ?_, fun k hx1 => ?_⟩
  · skip
    repeat (refine Ob.mk ?_ ?_; (focus (first | (rw [wf0]; exact Eq.refl _) | (exact Eq.refl _))))
    trivial
  refine ⟨fun h1 => ?_, fun h1 => ?_⟩
  · skip
    have c1 := h1
    (simp only [bsX] at c1)
    repeat (refine Ob.mk ?_ ?_; focus (omega))
    refine ⟨k + 1, (by omega), (by (simp only [SrcE.len, Nat.zero_add, List.length_append, List.length_cons, List.length_nil]; omega)), ?_⟩
    repeat (refine Ob.mk ?_ ?_; focus (first | (exact wf_step) | (exact Eq.refl _) | (exact fun _ _ => Eq.refl _)))
    trivial
  · skip
    have c1 := h1
    (simp only [bsX] at c1)
    obtain rfl : k = l.length := by omega
    refine ⟨Nat, fun j => ⟨[(2, .own 1002 0), (3, .own 1003 0), (6, .i (16 + (j : Int)))], [(1002, .bz 64 (fun _ => .u32 0) 165), (1003, .bz 64 (fun i => .u32 ((wx (wf l l.length) j).getD i 0)) 165)]⟩, fun j => j ≤ 48, fun j => 48 - j, 0, by simp, ?_, fun j hx2 => ?_⟩
    · skip
      repeat (refine Ob.mk ?_ ?_; (focus (first | (rw [wx0]; exact fun _ _ => Eq.refl _) | (exact Eq.refl _) | (exact fun _ _ => Eq.refl _))))
      trivial
    refine ⟨fun h2 => ?_, fun h2 => ?_⟩
    · skip
      have c2 := h2
      (simp only [bsX] at c2)
      refine ⟨[0, 1, 3, 7, 0, 16, 48, 112, 15, 511], by kernel_rfl, ?_⟩
      repeat (refine Ob.mk ?_ ?_; focus (omega))
      refine ⟨[0, 0, 2, 6, 14, 0, 32, 0, 224, 480, 0, 1024, 4064, 8190, 0, 16384, 49152, 114688, 262142, 0, 524768, 0, 3670496, 7864800, 0, 16777216, 66585056, 134217726, 268435455, 536870911], by kernel_rfl, ?_⟩
      repeat (refine Ob.mk ?_ ?_; focus (omega))
      refine ⟨_, _, _, _, (@cf_down ?_ ?_ ?_ ?_), ?_⟩
      rotate_left 4
      repeat (refine Ob.mk ?_ ?_; focus ((exact Eq.refl _)))
      refine ⟨_, _, _, _, (@cf_down ?_ ?_ ?_ ?_), ?_⟩
      rotate_left 4
      repeat (refine Ob.mk ?_ ?_; focus (first | (exact Eq.refl _) | omega))
      refine ⟨_, _, _, _, (@cf_down ?_ ?_ ?_ ?_), ?_⟩
      rotate_left 4
      repeat (refine Ob.mk ?_ ?_; focus ((exact Eq.refl _)))
      refine ⟨_, _, _, _, (@cf_down ?_ ?_ ?_ ?_), ?_⟩
      rotate_left 4
      repeat (refine Ob.mk ?_ ?_; focus (first | (exact Eq.refl _) | omega))
      refine ⟨j + 1, (by omega), (by (simp only [SrcE.len, Nat.zero_add, List.length_append, List.length_cons, List.length_nil]; omega)), ?_⟩
      repeat (refine Ob.mk ?_ ?_; focus (first | (exact wx_step (wf_length _ _)) | (exact Eq.refl _) | (exact fun _ _ => Eq.refl _)))
      trivial
      all_goals (omega)
    · skip
      have c2 := h2
      (simp only [bsX] at c2)
      obtain rfl : j = 48 := by omega
      repeat (refine Ob.mk ?_ ?_; (focus (first | (rw [wds_]; exact fun _ _ => Eq.refl _) | (exact Eq.refl _) | (exact fun _ _ => ⟨Eq.refl _, Eq.refl _⟩))))
      trivial
set_option maxRecDepth 100000 in
set_option maxHeartbeats 4000000 in
theorem cf_block {h : List UInt32} {l : List UInt8} (hh : h.length = 8) (hl : l.length = 64) : Cf Tryd.prog 84 [] [.az 8 (fun i => .u32 (h.getD i 0)), .bs l] [] (.az 8 (fun i => .u32 ((blk h l).getD i 0))) := by
  refine Cf.introR tabT {} (DR _ _ _ tabT {}) (by kernel_rfl) tab_ok Tryd.func84 Tryd.ntmps84 rfl rfl (DR_ok tab_ok (by kernel_rfl)) (by kernel_rfl) ?_
  repeat (refine Ob.mk ?_ ?_; focus ((exact fun _ _ => ⟨Eq.refl _, Eq.refl _⟩)))
  refine ⟨[0, 0, 3, 0, 0, 0, 0, 119, 247, 511], by kernel_rfl, ?_⟩
  refine ⟨_, _, _, _, cf_rounds, ?_⟩
  refine ⟨_, _, _, _, (@cf_words ?_ ?_), ?_⟩
  rotate_left 2
  repeat (refine Ob.mk ?_ ?_; focus (first | (exact Eq.refl _) | (exact fun _ _ => ⟨Eq.refl _, Eq.refl _⟩)))
  refine ⟨Nat, fun k => ⟨[(2, .own 1002 0), (4, .own 1004 0), (5, .own 1005 0), (6, .own 1006 0), (7, .own 1007 0), (18, .i (k : Int))], [(1002, .bz 8 (fun i => .u32 (h.getD i 0)) 155), (1004, .bz 8 (fun _ => .u32 0) 155), (1005, .bz 64 (fun i => .u32 (K256.getD i 0)) 165), (1006, .bz 64 (fun i => .u32 ((wds l).getD i 0)) 165), (1007, .bz 8 (fun i => .u32 ((rd (wds l) h k).getD i 0)) 155)]⟩, fun k => k ≤ 64, fun k => 64 - k, 0, by simp, ?_, fun k hx1 => ?_⟩
  · skip
    repeat (refine Ob.mk ?_ ?_; (focus (first | (rw [rd0]; exact fun _ _ => Eq.refl _) | (simp only [Nat.zero_add, Nat.mul_one, Int.toNat_natCast, Int.reduceToNat, rds]; exact Eq.refl _) | (exact Eq.refl _) | (exact fun _ _ => Eq.refl _))))
    trivial
  refine ⟨fun h1 => ?_, fun h1 => ?_⟩
  · skip
    have c1 := h1
    (simp only [bsX] at c1)
    refine ⟨[0, 1, 0, 4, 3, 31], by kernel_rfl, ?_⟩
    repeat (refine Ob.mk ?_ ?_; focus (omega))
    refine ⟨[0, 1, 0, 4, 0, 28, 60, 0, 188, 508, 1023, 0, 0, 4096, 14336, 0, 32768, 0, 131072, 491520, 1046528, 2097151, 0, 4194304, 12582912, 33554431, 0, 67108864, 201326592, 536870911, 1073741823], by kernel_rfl, ?_⟩
    repeat (refine Ob.mk ?_ ?_; focus (omega))
    refine ⟨_, _, _, _, (@cf_down ?_ ?_ ?_ ?_), ?_⟩
    rotate_left 4
    repeat (refine Ob.mk ?_ ?_; (focus (first | (simp only [Nat.zero_add, Nat.mul_one, Int.toNat_natCast, Int.reduceToNat, rds]; exact Eq.refl _) | (exact Eq.refl _))))
    refine ⟨_, _, _, _, (@cf_down ?_ ?_ ?_ ?_), ?_⟩
    rotate_left 4
    repeat (refine Ob.mk ?_ ?_; (focus (first | (simp only [Nat.zero_add, Nat.mul_one, Int.toNat_natCast, Int.reduceToNat, rds]; exact Eq.refl _) | (exact Eq.refl _))))
    refine ⟨_, _, _, _, (@cf_down ?_ ?_ ?_ ?_), ?_⟩
    rotate_left 4
    repeat (refine Ob.mk ?_ ?_; (focus (first | (simp only [Nat.zero_add, Nat.mul_one, Int.toNat_natCast, Int.reduceToNat, rds]; exact Eq.refl _) | (exact Eq.refl _) | omega)))
    refine ⟨[0, 1, 0, 7, 15, 0, 47, 127, 0, 0, 512, 1792, 0, 0, 8192, 28672, 65280, 0, 131072, 0, 524288, 1966080, 4194048, 8388607, 16777215], by kernel_rfl, ?_⟩
    refine ⟨_, _, _, _, (@cf_down ?_ ?_ ?_ ?_), ?_⟩
    rotate_left 4
    repeat (refine Ob.mk ?_ ?_; (focus (first | (simp only [Nat.zero_add, Nat.mul_one, Int.toNat_natCast, Int.reduceToNat, rds]; exact Eq.refl _) | (exact Eq.refl _))))
    refine ⟨_, _, _, _, (@cf_down ?_ ?_ ?_ ?_), ?_⟩
    rotate_left 4
    repeat (refine Ob.mk ?_ ?_; (focus (first | (simp only [Nat.zero_add, Nat.mul_one, Int.toNat_natCast, Int.reduceToNat, rds]; exact Eq.refl _) | (exact Eq.refl _))))
    refine ⟨_, _, _, _, (@cf_down ?_ ?_ ?_ ?_), ?_⟩
    rotate_left 4
    repeat (refine Ob.mk ?_ ?_; (focus (first | (simp only [Nat.zero_add, Nat.mul_one, Int.toNat_natCast, Int.reduceToNat, rds]; exact Eq.refl _) | (exact Eq.refl _) | omega)))
    refine ⟨k + 1, (by omega), (by (simp only [SrcE.len, Nat.zero_add, List.length_append, List.length_cons, List.length_nil]; omega)), ?_⟩
    repeat (refine Ob.mk ?_ ?_; (focus (first | (simp only [Nat.zero_add, Nat.mul_one, Int.toNat_natCast, Int.reduceToNat, rds]; exact Eq.refl _) | (exact Eq.refl _) | (exact fun _ _ => Eq.refl _))))
    trivial
    all_goals ((decide))
  · skip
    have c1 := h1
    (simp only [bsX] at c1)
    obtain rfl : k = 64 := by omega
    refine ⟨Nat, fun j => ⟨[(2, .own 1002 0), (4, .own 1004 0), (7, .own 1007 0), (98, .i (j : Int))], [(1002, .bz 8 (fun i => .u32 (h.getD i 0)) 155), (1004, .bz 8 (fun _ => .u32 0) 155), (1007, .bz 8 (fun i => .u32 ((ad h (rd (wds l) h 64) j).getD i 0)) 155)]⟩, fun j => j ≤ 8, fun j => 8 - j, 0, by simp, ?_, fun j hx2 => ?_⟩
    · skip
      repeat (refine Ob.mk ?_ ?_; (focus (first | (rw [ad0]; exact fun _ _ => Eq.refl _) | (exact Eq.refl _) | (exact fun _ _ => Eq.refl _))))
      trivial
    refine ⟨fun h2 => ?_, fun h2 => ?_⟩
    · skip
      have c2 := h2
      (simp only [bsX] at c2)
      refine ⟨[0, 1, 3, 0, 8, 24, 63, 127, 255], by kernel_rfl, ?_⟩
      repeat (refine Ob.mk ?_ ?_; focus (omega))
      refine ⟨j + 1, (by omega), (by (simp only [SrcE.len, Nat.zero_add, List.length_append, List.length_cons, List.length_nil]; omega)), ?_⟩
      repeat (refine Ob.mk ?_ ?_; focus (first | (exact ad_step (rd_length hh 64)) | (exact Eq.refl _) | (exact fun _ _ => Eq.refl _)))
      trivial
    · skip
      have c2 := h2
      (simp only [bsX] at c2)
      obtain rfl : j = 8 := by omega
      repeat (refine Ob.mk ?_ ?_; (focus (first | (rw [blk_]; exact fun _ _ => Eq.refl _) | (exact Eq.refl _) | (exact fun _ _ => ⟨Eq.refl _, Eq.refl _⟩))))
      trivial
  all_goals (omega)
set_option maxRecDepth 100000 in
set_option maxHeartbeats 4000000 in
theorem cf_Sum {l : List UInt8} (hl : l.length ≤ 100000000) : Cf Tryd.prog 74 [] [.bs l] [] (.tup [.bs (bif decide (1000 < (l.length : Int)) then [] else shaSum l), .i (bif decide (1000 < (l.length : Int)) then 1 else 0)]) := by
  have hP := cf_Pad hl
  generalize decide (1000 < (l.length : Int)) = E at hP ⊢
  obtain ⟨m, hm, hm2⟩ := shaPad_blocks l
  refine Cf.introR tabT {} (DR _ _ _ tabT {}) (by kernel_rfl) tab_ok Tryd.func74 Tryd.ntmps74 rfl rfl (DR_ok tab_ok (by kernel_rfl)) (by kernel_rfl) ?_
  refine ⟨_, _, _, _, hP, ?_⟩
  repeat (refine Ob.mk ?_ ?_; focus ((exact Eq.refl _)))
  refine ⟨fun h1 => ?_, fun h1 => ?_⟩
  · skip
    have c1 := h1
    (simp only [bsX] at c1)
    obtain rfl : E = true := by cases E <;> first | rfl | exact absurd rfl c1
    repeat (refine Ob.mk ?_ ?_; focus ((exact Eq.refl _)))
    trivial
  · skip
    have c1 := h1
    (simp only [bsX] at c1)
    obtain rfl : E = false := by cases E <;> first | rfl | exact absurd c1 (by decide)
    refine ⟨Nat, fun k => ⟨[(4, .bs (shaPad l)), (6, .own 1006 0), (7, .i (64 * (k : Int)))], [(1006, .bz 8 (fun i => .u32 ((hs (shaPad l) k).getD i 0)) 155)]⟩, fun k => k ≤ m, fun k => m - k, 0, by simp, ?_, fun k hx1 => ?_⟩
    · skip
      repeat (refine Ob.mk ?_ ?_; (focus (first | (rw [hs0]; exact Eq.refl _) | (exact Eq.refl _))))
      trivial
    refine ⟨fun h2 => ?_, fun h2 => ?_⟩
    · skip
      have c2 := h2
      (simp only [bsX] at c2)
      have hl2 := hs_length (shaPad l) k
      refine ⟨[0, 0, 0, 0, 8, 30, 63, 127], by kernel_rfl, ?_⟩
      repeat (refine Ob.mk ?_ ?_; focus (omega))
      refine ⟨_, _, _, _, (@cf_block ?_ ?_ ?_ ?_), ?_⟩
      rotate_left 4
      repeat (refine Ob.mk ?_ ?_; first | focus (first | (exact Eq.refl _) | (exact fun _ _ => ⟨Eq.refl _, Eq.refl _⟩) | omega) | rotate_left)
      refine ⟨k + 1, (by omega), (by (simp only [SrcE.len, Nat.zero_add, List.length_append, List.length_cons, List.length_nil]; omega)), ?_⟩
      repeat (refine Ob.mk ?_ ?_; focus (first | (exact hs_step) | (exact Eq.refl _)))
      trivial
      all_goals (first | (simp only [List.length_take, List.length_drop]; omega) | (exact fun _ _ => Eq.refl _) | assumption)
    · skip
      have c2 := h2
      (simp only [bsX] at c2)
      obtain rfl : k = m := by omega
      repeat (refine Ob.mk ?_ ?_; focus (omega))
      refine ⟨Nat, fun j => ⟨[(8, .osl 60 (4 * j)), (34, .az 8 (fun i => .u32 ((hs (shaPad l) k).getD i 0))), (35, .i (j : Int))], [(60, .rb (dg (hs (shaPad l) k) j) 5 0)]⟩, fun j => j ≤ 8, fun j => 8 - j, 0, by simp, ?_, fun j hx2 => ?_⟩
      · skip
        repeat (refine Ob.mk ?_ ?_; (focus (first | (rw [dg0]; exact Eq.refl _) | (exact Eq.refl _) | (exact fun _ _ => Eq.refl _) | omega)))
        trivial
      refine ⟨fun h3 => ?_, fun h3 => ?_⟩
      · skip
        have c3 := h3
        (simp only [bsX] at c3)
        repeat (refine Ob.mk ?_ ?_; (focus (first | (exact (dg_length _ _).symm) | (exact Eq.refl _) | omega | (simp only [SrcE.len, Nat.zero_add, List.length_append, List.length_cons, List.length_nil]; omega))))
        refine ⟨j + 1, (by omega), (by (simp only [SrcE.len, Nat.zero_add, List.length_append, List.length_cons, List.length_nil]; omega)), ?_⟩
        repeat (refine Ob.mk ?_ ?_; (focus (first | (rw [dgs]; exact Eq.refl _) | (exact Eq.refl _) | (exact fun _ _ => Eq.refl _) | (exact Nat.le_of_ble_eq_true rfl))))
        trivial
      · skip
        have c3 := h3
        (simp only [bsX] at c3)
        obtain rfl : j = 8 := by omega
        repeat (refine Ob.mk ?_ ?_; focus (first | (exact shaSum_ hm) | (exact (dg_length _ _).symm) | (exact Eq.refl _)))
        trivial
end Go.Proofs.YtcebndkiagbddaaDoor
