/- States of two peers: table.Right, Check, Find and Most: contracts. Written by a program (mktabf.py). -/
import Derived.Test.YtcebndkiagbddaaDoorClTable
import Derived.Test.YtcebndkiagbddaaDoorCKey
namespace Go.Proofs.YtcebndkiagbddaaDoor
open Go.RowKit
set_option linter.unusedVariables false
set_option linter.unusedSimpArgs false

set_option maxRecDepth 100000 in
set_option maxHeartbeats 4000000 in
theorem cf_Right1O {x : KS} (hx : x.ck = 0) : Cf Tryd.prog 19 [] [.agg (.s (keyN 1) :: .s [] :: .b x.live :: .s x.send :: .s x.take :: .i x.mine :: .i x.theirs :: .i x.born :: .i x.cnt :: .b x.sn :: .i x.la :: .u64 x.bi :: .b x.first :: .b false :: .s [] :: .s [] :: .i 0 :: .i 0 :: .i 0 :: .i 0 :: .b false :: .i 0 :: .v (.int .u64 0) :: .b false :: .b false :: .s [] :: .s [] :: .i 0 :: .i 0 :: .i 0 :: .i 0 :: .b false :: .i 0 :: .v (.int .u64 0) :: .b false :: .b false :: .i 0 :: .s [] :: .i 0 :: .i 0 :: .nil :: [])] [] (.i 0) := by
  have q0 := cf_kyCheck (k := x); rw [hx] at q0
  have q1 := cf_kyCheck (k := KS.z); rw [z_ck] at q1
  have q2 := cf_kyCheck (k := KS.z); rw [z_ck] at q2
  have hk := cf_hexCheck (l := keyN 1)
  rw [keyN_ok _ (by decide)] at hk
  have hh := cf_hexBytes (l := hellW)
  rw [show hexE hellW = 0 by decide +kernel] at hh
  refine Cf.introR tabT {} D0 (by kernel_rfl) tab_ok Tryd.func19 Tryd.ntmps19 rfl rfl (D0_ok) (by kernel_rfl) ?_
  refine ⟨_, _, _, _, hk, ?_⟩
  repeat (refine Ob.mk ?_ ?_; focus ((exact Eq.refl _)))
  refine knF ?_
  refine ⟨Nat, fun j => ⟨[(1, .own 1001 0), (2, .i 0), (31, .agg (.b x.live :: .s x.send :: .s x.take :: .i x.mine :: .i x.theirs :: .i x.born :: .i x.cnt :: .b x.sn :: .i x.la :: .u64 x.bi :: .b x.first :: .b false :: .s [] :: .s [] :: .i 0 :: .i 0 :: .i 0 :: .i 0 :: .b false :: .i 0 :: .v (.int .u64 0) :: .b false :: .b false :: .s [] :: .s [] :: .i 0 :: .i 0 :: .i 0 :: .i 0 :: .b false :: .i 0 :: .v (.int .u64 0) :: .b false :: [])), (32, .i (j : Int))], [(1001, .box (.s (keyN 1) :: .s [] :: .b x.live :: .s x.send :: .s x.take :: .i x.mine :: .i x.theirs :: .i x.born :: .i x.cnt :: .b x.sn :: .i x.la :: .u64 x.bi :: .b x.first :: .b false :: .s [] :: .s [] :: .i 0 :: .i 0 :: .i 0 :: .i 0 :: .b false :: .i 0 :: .v (.int .u64 0) :: .b false :: .b false :: .s [] :: .s [] :: .i 0 :: .i 0 :: .i 0 :: .i 0 :: .b false :: .i 0 :: .v (.int .u64 0) :: .b false :: .b false :: .i 0 :: .s [] :: .i 0 :: .i 0 :: .nil :: []) 36)]⟩, fun j => j ≤ 3, fun j => 3 - j, 0, by omega, ?_, fun j hx1 => ?_⟩
  · skip
    repeat (refine Ob.mk ?_ ?_; focus ((exact Eq.refl _)))
    trivial
  refine ⟨fun h2 => ?_, fun h2 => ?_⟩
  · skip
    have c2 := h2
    (simp only [bsX] at c2)
    rcases (by omega : j = 0 ∨ j = 1 ∨ j = 2) with rfl | rfl | rfl
    · skip
      repeat (refine Ob.mk ?_ ?_; focus (omega))
      refine ⟨_, _, _, _, q0, ?_⟩
      repeat (refine Ob.mk ?_ ?_; focus ((exact Eq.refl _)))
      refine knF ?_
      repeat (refine Ob.mk ?_ ?_; focus (omega))
      refine ⟨0 + 1, (by omega), (by (exact Nat.le_of_ble_eq_true rfl)), ?_⟩
      repeat (refine Ob.mk ?_ ?_; focus ((exact Eq.refl _)))
      trivial
    · skip
      repeat (refine Ob.mk ?_ ?_; focus (omega))
      refine ⟨_, _, _, _, q1, ?_⟩
      repeat (refine Ob.mk ?_ ?_; focus ((exact Eq.refl _)))
      refine knF ?_
      repeat (refine Ob.mk ?_ ?_; focus (omega))
      refine ⟨1 + 1, (by omega), (by (exact Nat.le_of_ble_eq_true rfl)), ?_⟩
      repeat (refine Ob.mk ?_ ?_; focus ((exact Eq.refl _)))
      trivial
    · skip
      repeat (refine Ob.mk ?_ ?_; focus (omega))
      refine ⟨_, _, _, _, q2, ?_⟩
      repeat (refine Ob.mk ?_ ?_; focus ((exact Eq.refl _)))
      refine knF ?_
      repeat (refine Ob.mk ?_ ?_; focus (omega))
      refine ⟨2 + 1, (by omega), (by (exact Nat.le_of_ble_eq_true rfl)), ?_⟩
      repeat (refine Ob.mk ?_ ?_; focus ((exact Eq.refl _)))
      trivial
  · skip
    have c2 := h2
    (simp only [bsX] at c2)
    repeat (refine Ob.mk ?_ ?_; (focus (((intro _; exact Eq.refl _)))))
    refine knF ?_
    refine knF ?_
    refine knF ?_
    refine knF ?_
    refine ⟨Nat, fun i => ⟨[(1, .own 1001 0), (2, .i 0), (109, .nil), (110, .i 0), (111, .i (i : Int))], []⟩, fun i => i = 0, fun i => 0, 0, by simp, ?_, fun i hx2 => ?_⟩
    · skip
      repeat (refine Ob.mk ?_ ?_; focus ((exact Eq.refl _)))
      trivial
    refine ⟨fun h10 => ?_, fun h10 => ?_⟩
    · skip
      have c10 := h10
      (simp only [bsX] at c10)
      exact absurd c10 (by omega)
    · skip
      have c10 := h10
      (simp only [bsX] at c10)
      repeat (refine Ob.mk ?_ ?_; focus ((exact Eq.refl _)))
      trivial

set_option maxRecDepth 100000 in
set_option maxHeartbeats 4000000 in
theorem cf_Right2O {y : KS} (hy : y.ck = 0) : Cf Tryd.prog 19 [] [.agg (.s (keyN 2) :: .s [] :: .b false :: .s [] :: .s [] :: .i 0 :: .i 0 :: .i 0 :: .i 0 :: .b false :: .i 0 :: .v (.int .u64 0) :: .b false :: .b false :: .s [] :: .s [] :: .i 0 :: .i 0 :: .i 0 :: .i 0 :: .b false :: .i 0 :: .v (.int .u64 0) :: .b false :: .b y.live :: .s y.send :: .s y.take :: .i y.mine :: .i y.theirs :: .i y.born :: .i y.cnt :: .b y.sn :: .i y.la :: .u64 y.bi :: .b y.first :: .b true :: .i 500 :: .s hellW :: .i 0 :: .i 0 :: .nil :: [])] [] (.i 0) := by
  have q0 := cf_kyCheck (k := KS.z); rw [z_ck] at q0
  have q1 := cf_kyCheck (k := KS.z); rw [z_ck] at q1
  have q2 := cf_kyCheck (k := y); rw [hy] at q2
  have hk := cf_hexCheck (l := keyN 2)
  rw [keyN_ok _ (by decide)] at hk
  have hh := cf_hexBytes (l := hellW)
  rw [show hexE hellW = 0 by decide +kernel] at hh
  refine Cf.introR tabT {} D0 (by kernel_rfl) tab_ok Tryd.func19 Tryd.ntmps19 rfl rfl (D0_ok) (by kernel_rfl) ?_
  refine ⟨_, _, _, _, hk, ?_⟩
  repeat (refine Ob.mk ?_ ?_; focus ((exact Eq.refl _)))
  refine knF ?_
  refine ⟨Nat, fun j => ⟨[(1, .own 1001 0), (2, .i 0), (31, .agg (.b false :: .s [] :: .s [] :: .i 0 :: .i 0 :: .i 0 :: .i 0 :: .b false :: .i 0 :: .v (.int .u64 0) :: .b false :: .b false :: .s [] :: .s [] :: .i 0 :: .i 0 :: .i 0 :: .i 0 :: .b false :: .i 0 :: .v (.int .u64 0) :: .b false :: .b y.live :: .s y.send :: .s y.take :: .i y.mine :: .i y.theirs :: .i y.born :: .i y.cnt :: .b y.sn :: .i y.la :: .u64 y.bi :: .b y.first :: [])), (32, .i (j : Int))], [(1001, .box (.s (keyN 2) :: .s [] :: .b false :: .s [] :: .s [] :: .i 0 :: .i 0 :: .i 0 :: .i 0 :: .b false :: .i 0 :: .v (.int .u64 0) :: .b false :: .b false :: .s [] :: .s [] :: .i 0 :: .i 0 :: .i 0 :: .i 0 :: .b false :: .i 0 :: .v (.int .u64 0) :: .b false :: .b y.live :: .s y.send :: .s y.take :: .i y.mine :: .i y.theirs :: .i y.born :: .i y.cnt :: .b y.sn :: .i y.la :: .u64 y.bi :: .b y.first :: .b true :: .i 500 :: .s hellW :: .i 0 :: .i 0 :: .nil :: []) 36)]⟩, fun j => j ≤ 3, fun j => 3 - j, 0, by omega, ?_, fun j hx1 => ?_⟩
  · skip
    repeat (refine Ob.mk ?_ ?_; focus ((exact Eq.refl _)))
    trivial
  refine ⟨fun h2 => ?_, fun h2 => ?_⟩
  · skip
    have c2 := h2
    (simp only [bsX] at c2)
    rcases (by omega : j = 0 ∨ j = 1 ∨ j = 2) with rfl | rfl | rfl
    · skip
      repeat (refine Ob.mk ?_ ?_; focus (omega))
      refine ⟨_, _, _, _, q0, ?_⟩
      repeat (refine Ob.mk ?_ ?_; focus ((exact Eq.refl _)))
      refine knF ?_
      repeat (refine Ob.mk ?_ ?_; focus (omega))
      refine ⟨0 + 1, (by omega), (by (exact Nat.le_of_ble_eq_true rfl)), ?_⟩
      repeat (refine Ob.mk ?_ ?_; focus ((exact Eq.refl _)))
      trivial
    · skip
      repeat (refine Ob.mk ?_ ?_; focus (omega))
      refine ⟨_, _, _, _, q1, ?_⟩
      repeat (refine Ob.mk ?_ ?_; focus ((exact Eq.refl _)))
      refine knF ?_
      repeat (refine Ob.mk ?_ ?_; focus (omega))
      refine ⟨1 + 1, (by omega), (by (exact Nat.le_of_ble_eq_true rfl)), ?_⟩
      repeat (refine Ob.mk ?_ ?_; focus ((exact Eq.refl _)))
      trivial
    · skip
      repeat (refine Ob.mk ?_ ?_; focus (omega))
      refine ⟨_, _, _, _, q2, ?_⟩
      repeat (refine Ob.mk ?_ ?_; focus ((exact Eq.refl _)))
      refine knF ?_
      repeat (refine Ob.mk ?_ ?_; focus (omega))
      refine ⟨2 + 1, (by omega), (by (exact Nat.le_of_ble_eq_true rfl)), ?_⟩
      repeat (refine Ob.mk ?_ ?_; focus ((exact Eq.refl _)))
      trivial
  · skip
    have c2 := h2
    (simp only [bsX] at c2)
    repeat (refine Ob.mk ?_ ?_; focus ((exact fun hg => beq_t hg)))
    refine knF ?_
    refine knT ?_
    refine knF ?_
    refine ⟨_, _, _, _, hh, ?_⟩
    repeat (refine Ob.mk ?_ ?_; focus ((exact Eq.refl _)))
    refine knF ?_
    repeat (refine Ob.mk ?_ ?_; (focus (((intro _; exact Eq.refl _)))))
    refine knF ?_
    refine knF ?_
    refine knF ?_
    refine ⟨Nat, fun i => ⟨[(1, .own 1001 0), (2, .i 0), (109, .nil), (110, .i 0), (111, .i (i : Int))], []⟩, fun i => i = 0, fun i => 0, 0, by simp, ?_, fun i hx2 => ?_⟩
    · skip
      repeat (refine Ob.mk ?_ ?_; focus ((exact Eq.refl _)))
      trivial
    refine ⟨fun h13 => ?_, fun h13 => ?_⟩
    · skip
      have c13 := h13
      (simp only [bsX] at c13)
      exact absurd c13 (by omega)
    · skip
      have c13 := h13
      (simp only [bsX] at c13)
      repeat (refine Ob.mk ?_ ?_; focus ((exact Eq.refl _)))
      trivial

set_option maxRecDepth 100000 in
set_option maxHeartbeats 4000000 in
theorem cf_num0O {x y : KS} : Cf Tryd.prog 20 [] [.agg (.s (keyN 1) :: .s [] :: .b x.live :: .s x.send :: .s x.take :: .i x.mine :: .i x.theirs :: .i x.born :: .i x.cnt :: .b x.sn :: .i x.la :: .u64 x.bi :: .b x.first :: .b false :: .s [] :: .s [] :: .i 0 :: .i 0 :: .i 0 :: .i 0 :: .b false :: .i 0 :: .v (.int .u64 0) :: .b false :: .b false :: .s [] :: .s [] :: .i 0 :: .i 0 :: .i 0 :: .i 0 :: .b false :: .i 0 :: .v (.int .u64 0) :: .b false :: .b false :: .i 0 :: .s [] :: .i 0 :: .i 0 :: .nil :: [])] [] (.agg [.i 0, .i x.mine, .i 0, .i 0, .i 0]) := by
  refine Cf.introR tabT {} D0 (by kernel_rfl) tab_ok Tryd.func20 Tryd.ntmps20 rfl rfl (D0_ok) (by kernel_rfl) ?_
  repeat (refine Ob.mk ?_ ?_; focus ((exact Eq.refl _)))
  trivial

set_option maxRecDepth 100000 in
set_option maxHeartbeats 4000000 in
theorem cf_num1O {x y : KS} : Cf Tryd.prog 20 [] [.agg (.s (keyN 2) :: .s [] :: .b false :: .s [] :: .s [] :: .i 0 :: .i 0 :: .i 0 :: .i 0 :: .b false :: .i 0 :: .v (.int .u64 0) :: .b false :: .b false :: .s [] :: .s [] :: .i 0 :: .i 0 :: .i 0 :: .i 0 :: .b false :: .i 0 :: .v (.int .u64 0) :: .b false :: .b y.live :: .s y.send :: .s y.take :: .i y.mine :: .i y.theirs :: .i y.born :: .i y.cnt :: .b y.sn :: .i y.la :: .u64 y.bi :: .b y.first :: .b true :: .i 500 :: .s hellW :: .i 0 :: .i 0 :: .nil :: [])] [] (.agg [.i 0, .i 0, .i 0, .i y.mine, .i 500]) := by
  refine Cf.introR tabT {} D0 (by kernel_rfl) tab_ok Tryd.func20 Tryd.ntmps20 rfl rfl (D0_ok) (by kernel_rfl) ?_
  repeat (refine Ob.mk ?_ ?_; focus ((exact Eq.refl _)))
  trivial

def idxI (L : List Int) (x : Int) : Int := if x ∈ L then (L.idxOf x : Int) else -1
theorem idxI_at {L : List Int} {x : Int} {i : Nat} (hi : i < L.length) (h : ∀ k, k < i → L.getD k 0 ≠ x) (e : x = L.getD i 0) : idxI L x = (i : Int) := by
  have hm : x ∈ L := by rw [e, List.getD_eq_getElem?_getD, List.getElem?_eq_getElem hi]; exact List.getElem_mem hi
  unfold idxI
  rw [if_pos hm]
  congr 1
  have hl := List.idxOf_lt_length_iff.2 hm
  have hg := List.getElem_idxOf hl
  rcases Nat.lt_trichotomy (L.idxOf x) i with q | q | q
  · exact absurd (by rw [List.getD_eq_getElem?_getD, List.getElem?_eq_getElem hl]; exact hg) (h _ q)
  · exact q
  · have := List.not_of_lt_findIdx (p := (· == x)) (xs := L) (i := i) q
    rw [List.getD_eq_getElem?_getD, List.getElem?_eq_getElem hi] at e
    have e2 : L[i] = x := e.symm
    rw [e2] at this
    simp at this
theorem idxI_no {L : List Int} {x : Int} (h : ∀ k, k < L.length → L.getD k 0 ≠ x) : idxI L x = -1 := by
  refine if_neg fun hm => ?_
  obtain ⟨i, hi, e⟩ := List.mem_iff_getElem.1 hm
  exact h i hi (by rw [List.getD_eq_getElem?_getD, List.getElem?_eq_getElem hi]; exact e)
theorem idxI_mem {L : List Int} {x : Int} : decide (0 ≤ idxI L x) = decide (x ∈ L) := by
  unfold idxI
  by_cases h : x ∈ L
  · rw [if_pos h]; simp [h]
  · rw [if_neg h]; simp [h]
set_option maxRecDepth 100000 in
set_option maxHeartbeats 4000000 in
theorem cf_idx5O {a b c d e x : Int} : Cf Tryd.prog 22 [] [.sl [.i a, .i b, .i c, .i d, .i e] 5, .i x] [] (.i (idxI [a, b, c, d, e] x)) := by
  refine Cf.introR tabT {sel := [14]} D0 (by kernel_rfl) tab_ok Tryd.func22 Tryd.ntmps22 rfl rfl (D0_ok) (by kernel_rfl) ?_
  refine ⟨Nat, fun k => ⟨[(0, .sl [.i a, .i b, .i c, .i d, .i e] 5), (1, .i x), (7, .i 5), (8, .i (k : Int))], []⟩, fun k => k ≤ 5 ∧ ∀ i, i < k → [a, b, c, d, e].getD i 0 ≠ x, fun k => 5 - k, 0, ⟨Nat.zero_le _, fun i hi => absurd hi (Nat.not_lt_zero _)⟩, ?_, fun k hx1 => ?_⟩
  · skip
    repeat (refine Ob.mk ?_ ?_; focus ((exact Eq.refl _)))
    trivial
  refine ⟨fun h1 => ?_, fun h1 => ?_⟩
  · skip
    have c1 := h1
    (simp only [bsX] at c1)
    have hk : k < 5 := by omega
    repeat (refine Ob.mk ?_ ?_; focus (first | assumption | omega))
    refine ⟨fun h2 => ?_, fun h2 => ?_⟩
    · skip
      have c2 := h2
      (simp only [bsX] at c2)
      have hO := idxI_at (L := [a, b, c, d, e]) hk hx1.2 c2
      repeat (refine Ob.mk ?_ ?_; focus (exact hO.symm))
      trivial
    · skip
      have c2 := h2
      (simp only [bsX] at c2)
      have hO := c2
      repeat (refine Ob.mk ?_ ?_; focus (omega))
      have hnx : k + 1 ≤ 5 ∧ ∀ i, i < k + 1 → [a, b, c, d, e].getD i 0 ≠ x := ⟨hk, fun i hi => (Nat.lt_or_ge i k).elim (hx1.2 i) fun q e2 => hO (by rw [← e2, show i = k from by omega]; rfl)⟩
      refine ⟨k + 1, (by assumption), (by (simp only [SrcE.len, Nat.zero_add, List.length_append, List.length_cons, List.length_nil]; omega)), ?_⟩
      repeat (refine Ob.mk ?_ ?_; focus ((exact Eq.refl _)))
      trivial
  · skip
    have c1 := h1
    (simp only [bsX] at c1)
    have hO := idxI_no (L := [a, b, c, d, e]) (x := x) fun i hi => hx1.2 i (by simp only [List.length_cons, List.length_nil] at hi; omega)
    repeat (refine Ob.mk ?_ ?_; focus (exact hO.symm))
    trivial
theorem take_getI {N : List Int} {n k : Nat} (h : k < n) : (N.take n).getD k 0 = N.getD k 0 := by
  rw [List.getD_eq_getElem?_getD, List.getD_eq_getElem?_getD, List.getElem?_take_of_lt h]
set_option maxRecDepth 100000 in
set_option maxHeartbeats 4000000 in
theorem cf_idxLO {N : List Int} {n : Nat} {x : Int} (hl : n ≤ 1000) (hn : n ≤ N.length) : Cf Tryd.prog 22 [] [.lz n 1 (fun a b => .i (N.getD a 0)), .i x] [] (.i (idxI (N.take n) x)) := by
  have htl : (N.take n).length = n := by rw [List.length_take]; omega
  refine Cf.introR tabT {} D0 (by kernel_rfl) tab_ok Tryd.func22 Tryd.ntmps22 rfl rfl (D0_ok) (by kernel_rfl) ?_
  refine ⟨Nat, fun k => ⟨[(0, .lz n 1 (fun a b => .i (N.getD a 0))), (1, .i x), (7, .i (n : Int)), (8, .i (k : Int))], []⟩, fun k => k ≤ n ∧ ∀ i, i < k → (N.take n).getD i 0 ≠ x, fun k => n - k, 0, ⟨Nat.zero_le _, fun i hi => absurd hi (Nat.not_lt_zero _)⟩, ?_, fun k hx1 => ?_⟩
  · skip
    repeat (refine Ob.mk ?_ ?_; (focus (first | (exact Eq.refl _) | (intro hg; ((intro hq; ((simp_all; done))))))))
    trivial
  refine ⟨fun h1 => ?_, fun h1 => ?_⟩
  · skip
    have c1 := h1
    (simp only [bsX] at c1)
    have hk : k < n := by omega
    repeat (refine Ob.mk ?_ ?_; focus (first | assumption | omega))
    refine ⟨fun h2 => ?_, fun h2 => ?_⟩
    · skip
      have c2 := h2
      (simp only [bsX] at c2)
      have hO := idxI_at (L := N.take n) (by rw [htl]; exact hk) hx1.2 (by rw [take_getI hk]; exact c2)
      repeat (refine Ob.mk ?_ ?_; focus (exact hO.symm))
      trivial
    · skip
      have c2 := h2
      (simp only [bsX] at c2)
      have hO := c2
      repeat (refine Ob.mk ?_ ?_; focus (omega))
      have hnx : k + 1 ≤ n ∧ ∀ i, i < k + 1 → (N.take n).getD i 0 ≠ x := ⟨hk, fun i hi => (Nat.lt_or_ge i k).elim (hx1.2 i) fun q e2 => hO (by rw [← e2, show i = k from by omega, take_getI hk]; rfl)⟩
      refine ⟨k + 1, (by assumption), (by (simp only [SrcE.len, Nat.zero_add, List.length_append, List.length_cons, List.length_nil]; omega)), ?_⟩
      repeat (refine Ob.mk ?_ ?_; (focus (first | (exact Eq.refl _) | (intro hg; ((intro hq; ((simp_all; done))))))))
      trivial
  · skip
    have c1 := h1
    (simp only [bsX] at c1)
    have hO := idxI_no (L := N.take n) (x := x) fun i hi => hx1.2 i (by omega)
    repeat (refine Ob.mk ?_ ?_; focus (exact hO.symm))
    trivial
set_option maxRecDepth 100000 in
set_option maxHeartbeats 4000000 in
theorem cf_hasLO {N : List Int} {n : Nat} {x : Int} (hl : n ≤ 1000) (hn : n ≤ N.length) : Cf Tryd.prog 21 [] [.lz n 1 (fun a b => .i (N.getD a 0)), .i x] [] (.b (decide (x ∈ N.take n))) := by
  refine Cf.introR tabT {} D0 (by kernel_rfl) tab_ok Tryd.func21 Tryd.ntmps21 rfl rfl (D0_ok) (by kernel_rfl) ?_
  refine ⟨_, _, _, _, (cf_idxLO (x := x) hl hn), ?_⟩
  repeat (refine Ob.mk ?_ ?_; (focus (first | exact idxI_mem | (exact Eq.refl _) | (intro hg; ((intro hq; ((simp_all; done))))))))
  trivial
theorem int_snoc {N : List Int} {k : Nat} {m : List EV} (h : m.getD 0 .any = .i (N.getD k 0)) : ∀ i, i < k + 1 → ∀ j, j < 1 → (fun i j => bif Nat.blt i k then (fun a b => EV.i (N.getD a 0)) i j else m.getD ((i - k) * 1 + j) .any) i j = (fun a b => EV.i (N.getD a 0)) i j := by
  intro i hi j hj
  obtain rfl : j = 0 := by omega
  by_cases q : i < k
  · show (bif Nat.blt i k then _ else _) = _
    rw [show Nat.blt i k = true from by rw [Nat.blt_eq]; exact q]; rfl
  · obtain rfl : i = k := by omega
    show (bif Nat.blt i i then _ else _) = _
    rw [show Nat.blt i i = false from by
      cases hb : Nat.blt i i with
      | false => rfl
      | true => rw [Nat.blt_eq] at hb; omega]
    show m.getD ((i - i) * 1 + 0) .any = _
    rw [Nat.sub_self, Nat.zero_mul]; exact h
abbrev nmL (x y : KS) : List Int := [0, x.mine, 0, 0, 0, 0, 0, 0, y.mine, 500]

abbrev nm0 (x y : KS) : List EV := [.i 0, .i x.mine, .i 0, .i 0, .i 0]
abbrev nm1 (x y : KS) : List EV := [.i 0, .i 0, .i 0, .i y.mine, .i 500]
set_option maxRecDepth 100000 in
set_option maxHeartbeats 4000000 in
theorem cf_tMost {x y : KS} (hx : 0 < x.mine ∧ x.mine < 500) (hy : 0 < y.mine ∧ y.mine < 500) : Cf Tryd.prog 8 [] [.sl (.s (keyN 1) :: .s [] :: .b x.live :: .s x.send :: .s x.take :: .i x.mine :: .i x.theirs :: .i x.born :: .i x.cnt :: .b x.sn :: .i x.la :: .u64 x.bi :: .b x.first :: .b false :: .s [] :: .s [] :: .i 0 :: .i 0 :: .i 0 :: .i 0 :: .b false :: .i 0 :: .v (.int .u64 0) :: .b false :: .b false :: .s [] :: .s [] :: .i 0 :: .i 0 :: .i 0 :: .i 0 :: .b false :: .i 0 :: .v (.int .u64 0) :: .b false :: .b false :: .i 0 :: .s [] :: .i 0 :: .i 0 :: .nil :: .s (keyN 2) :: .s [] :: .b false :: .s [] :: .s [] :: .i 0 :: .i 0 :: .i 0 :: .i 0 :: .b false :: .i 0 :: .v (.int .u64 0) :: .b false :: .b false :: .s [] :: .s [] :: .i 0 :: .i 0 :: .i 0 :: .i 0 :: .b false :: .i 0 :: .v (.int .u64 0) :: .b false :: .b y.live :: .s y.send :: .s y.take :: .i y.mine :: .i y.theirs :: .i y.born :: .i y.cnt :: .b y.sn :: .i y.la :: .u64 y.bi :: .b y.first :: .b true :: .i 500 :: .s hellW :: .i 0 :: .i 0 :: .nil :: []) 2] [] (.i 500) := by
  refine Cf.introR tabT {} D0 (by kernel_rfl) tab_ok Tryd.func8 Tryd.ntmps8 rfl rfl (D0_ok) (by kernel_rfl) ?_
  refine ⟨Nat, fun i => ⟨[(3, .i (((nmL x y).take (5 * i)).foldl max 0)), (8, .sl (.s (keyN 1) :: .s [] :: .b x.live :: .s x.send :: .s x.take :: .i x.mine :: .i x.theirs :: .i x.born :: .i x.cnt :: .b x.sn :: .i x.la :: .u64 x.bi :: .b x.first :: .b false :: .s [] :: .s [] :: .i 0 :: .i 0 :: .i 0 :: .i 0 :: .b false :: .i 0 :: .v (.int .u64 0) :: .b false :: .b false :: .s [] :: .s [] :: .i 0 :: .i 0 :: .i 0 :: .i 0 :: .b false :: .i 0 :: .v (.int .u64 0) :: .b false :: .b false :: .i 0 :: .s [] :: .i 0 :: .i 0 :: .nil :: .s (keyN 2) :: .s [] :: .b false :: .s [] :: .s [] :: .i 0 :: .i 0 :: .i 0 :: .i 0 :: .b false :: .i 0 :: .v (.int .u64 0) :: .b false :: .b false :: .s [] :: .s [] :: .i 0 :: .i 0 :: .i 0 :: .i 0 :: .b false :: .i 0 :: .v (.int .u64 0) :: .b false :: .b y.live :: .s y.send :: .s y.take :: .i y.mine :: .i y.theirs :: .i y.born :: .i y.cnt :: .b y.sn :: .i y.la :: .u64 y.bi :: .b y.first :: .b true :: .i 500 :: .s hellW :: .i 0 :: .i 0 :: .nil :: []) 2), (9, .i 2), (10, .i (i : Int))], []⟩, fun i => i ≤ 2, fun i => 2 - i, 0, by omega, ?_, fun i hx1 => ?_⟩
  · skip
    repeat (refine Ob.mk ?_ ?_; focus (rfl))
    trivial
  refine ⟨fun h1 => ?_, fun h1 => ?_⟩
  · skip
    have c1 := h1
    (simp only [bsX] at c1)
    rcases (by omega : i = 0 ∨ i = 1) with rfl | rfl
    · skip
      repeat (refine Ob.mk ?_ ?_; focus (omega))
      refine ⟨_, _, _, _, (cf_num0O (x := x) (y := y)), ?_⟩
      repeat (refine Ob.mk ?_ ?_; focus (rfl))
      refine ⟨Nat, fun j => ⟨[(3, .i (((nmL x y).take (5 * 0 + j)).foldl max 0)), (8, .sl (.s (keyN 1) :: .s [] :: .b x.live :: .s x.send :: .s x.take :: .i x.mine :: .i x.theirs :: .i x.born :: .i x.cnt :: .b x.sn :: .i x.la :: .u64 x.bi :: .b x.first :: .b false :: .s [] :: .s [] :: .i 0 :: .i 0 :: .i 0 :: .i 0 :: .b false :: .i 0 :: .v (.int .u64 0) :: .b false :: .b false :: .s [] :: .s [] :: .i 0 :: .i 0 :: .i 0 :: .i 0 :: .b false :: .i 0 :: .v (.int .u64 0) :: .b false :: .b false :: .i 0 :: .s [] :: .i 0 :: .i 0 :: .nil :: .s (keyN 2) :: .s [] :: .b false :: .s [] :: .s [] :: .i 0 :: .i 0 :: .i 0 :: .i 0 :: .b false :: .i 0 :: .v (.int .u64 0) :: .b false :: .b false :: .s [] :: .s [] :: .i 0 :: .i 0 :: .i 0 :: .i 0 :: .b false :: .i 0 :: .v (.int .u64 0) :: .b false :: .b y.live :: .s y.send :: .s y.take :: .i y.mine :: .i y.theirs :: .i y.born :: .i y.cnt :: .b y.sn :: .i y.la :: .u64 y.bi :: .b y.first :: .b true :: .i 500 :: .s hellW :: .i 0 :: .i 0 :: .nil :: []) 2), (9, .i 2), (10, .i (0 : Int)), (15, .agg (nm0 x y)), (16, .i (j : Int))], []⟩, fun j => j ≤ 5, fun j => 5 - j, 0, by omega, ?_, fun j hx2 => ?_⟩
      · skip
        repeat (refine Ob.mk ?_ ?_; focus (rfl))
        trivial
      refine ⟨fun h2 => ?_, fun h2 => ?_⟩
      · skip
        have c2 := h2
        (simp only [bsX] at c2)
        rcases (by omega : j = 0 ∨ j = 1 ∨ j = 2 ∨ j = 3 ∨ j = 4) with rfl | rfl | rfl | rfl | rfl
        · skip
          repeat (refine Ob.mk ?_ ?_; focus (omega))
          refine ⟨0 + 1, (by omega), (by (exact Nat.le_of_ble_eq_true rfl)), ?_⟩
          repeat (refine Ob.mk ?_ ?_; focus (rfl))
          trivial
        · skip
          repeat (refine Ob.mk ?_ ?_; focus (omega))
          refine ⟨1 + 1, (by omega), (by (exact Nat.le_of_ble_eq_true rfl)), ?_⟩
          repeat (refine Ob.mk ?_ ?_; focus (rfl))
          trivial
        · skip
          repeat (refine Ob.mk ?_ ?_; focus (omega))
          refine ⟨2 + 1, (by omega), (by (exact Nat.le_of_ble_eq_true rfl)), ?_⟩
          repeat (refine Ob.mk ?_ ?_; focus (rfl))
          trivial
        · skip
          repeat (refine Ob.mk ?_ ?_; focus (omega))
          refine ⟨3 + 1, (by omega), (by (exact Nat.le_of_ble_eq_true rfl)), ?_⟩
          repeat (refine Ob.mk ?_ ?_; focus (rfl))
          trivial
        · skip
          repeat (refine Ob.mk ?_ ?_; focus (omega))
          refine ⟨4 + 1, (by omega), (by (exact Nat.le_of_ble_eq_true rfl)), ?_⟩
          repeat (refine Ob.mk ?_ ?_; focus (rfl))
          trivial
      · skip
        have c2 := h2
        (simp only [bsX] at c2)
        obtain rfl : j = 5 := by omega
        repeat (refine Ob.mk ?_ ?_; focus (omega))
        refine ⟨0 + 1, (by omega), (by (exact Nat.le_of_ble_eq_true rfl)), ?_⟩
        repeat (refine Ob.mk ?_ ?_; focus (rfl))
        trivial
    · skip
      repeat (refine Ob.mk ?_ ?_; focus (omega))
      refine ⟨_, _, _, _, (cf_num1O (x := x) (y := y)), ?_⟩
      repeat (refine Ob.mk ?_ ?_; focus (rfl))
      refine ⟨Nat, fun j => ⟨[(3, .i (((nmL x y).take (5 * 1 + j)).foldl max 0)), (8, .sl (.s (keyN 1) :: .s [] :: .b x.live :: .s x.send :: .s x.take :: .i x.mine :: .i x.theirs :: .i x.born :: .i x.cnt :: .b x.sn :: .i x.la :: .u64 x.bi :: .b x.first :: .b false :: .s [] :: .s [] :: .i 0 :: .i 0 :: .i 0 :: .i 0 :: .b false :: .i 0 :: .v (.int .u64 0) :: .b false :: .b false :: .s [] :: .s [] :: .i 0 :: .i 0 :: .i 0 :: .i 0 :: .b false :: .i 0 :: .v (.int .u64 0) :: .b false :: .b false :: .i 0 :: .s [] :: .i 0 :: .i 0 :: .nil :: .s (keyN 2) :: .s [] :: .b false :: .s [] :: .s [] :: .i 0 :: .i 0 :: .i 0 :: .i 0 :: .b false :: .i 0 :: .v (.int .u64 0) :: .b false :: .b false :: .s [] :: .s [] :: .i 0 :: .i 0 :: .i 0 :: .i 0 :: .b false :: .i 0 :: .v (.int .u64 0) :: .b false :: .b y.live :: .s y.send :: .s y.take :: .i y.mine :: .i y.theirs :: .i y.born :: .i y.cnt :: .b y.sn :: .i y.la :: .u64 y.bi :: .b y.first :: .b true :: .i 500 :: .s hellW :: .i 0 :: .i 0 :: .nil :: []) 2), (9, .i 2), (10, .i (1 : Int)), (15, .agg (nm1 x y)), (16, .i (j : Int))], []⟩, fun j => j ≤ 5, fun j => 5 - j, 0, by omega, ?_, fun j hx2 => ?_⟩
      · skip
        repeat (refine Ob.mk ?_ ?_; focus (rfl))
        trivial
      refine ⟨fun h3 => ?_, fun h3 => ?_⟩
      · skip
        have c3 := h3
        (simp only [bsX] at c3)
        rcases (by omega : j = 0 ∨ j = 1 ∨ j = 2 ∨ j = 3 ∨ j = 4) with rfl | rfl | rfl | rfl | rfl
        · skip
          repeat (refine Ob.mk ?_ ?_; focus (omega))
          refine ⟨0 + 1, (by omega), (by (exact Nat.le_of_ble_eq_true rfl)), ?_⟩
          repeat (refine Ob.mk ?_ ?_; focus (rfl))
          trivial
        · skip
          repeat (refine Ob.mk ?_ ?_; focus (omega))
          refine ⟨1 + 1, (by omega), (by (exact Nat.le_of_ble_eq_true rfl)), ?_⟩
          repeat (refine Ob.mk ?_ ?_; focus (rfl))
          trivial
        · skip
          repeat (refine Ob.mk ?_ ?_; focus (omega))
          refine ⟨2 + 1, (by omega), (by (exact Nat.le_of_ble_eq_true rfl)), ?_⟩
          repeat (refine Ob.mk ?_ ?_; focus (rfl))
          trivial
        · skip
          repeat (refine Ob.mk ?_ ?_; focus (omega))
          refine ⟨3 + 1, (by omega), (by (exact Nat.le_of_ble_eq_true rfl)), ?_⟩
          repeat (refine Ob.mk ?_ ?_; focus (rfl))
          trivial
        · skip
          repeat (refine Ob.mk ?_ ?_; focus (omega))
          refine ⟨4 + 1, (by omega), (by (exact Nat.le_of_ble_eq_true rfl)), ?_⟩
          repeat (refine Ob.mk ?_ ?_; focus (rfl))
          trivial
      · skip
        have c3 := h3
        (simp only [bsX] at c3)
        obtain rfl : j = 5 := by omega
        repeat (refine Ob.mk ?_ ?_; focus (omega))
        refine ⟨1 + 1, (by omega), (by (exact Nat.le_of_ble_eq_true rfl)), ?_⟩
        repeat (refine Ob.mk ?_ ?_; focus (rfl))
        trivial
  · skip
    have c1 := h1
    (simp only [bsX] at c1)
    obtain rfl : i = 2 := by omega
    repeat (refine Ob.mk ?_ ?_; (focus (((show ((nmL x y).take 10).foldl max 0 = 500; simp [nmL]; omega)))))
    trivial

set_option maxRecDepth 100000 in
set_option maxHeartbeats 4000000 in
theorem cf_tCheck {x y : KS} (hx : x.ck = 0) (hy : y.ck = 0) (hm : 0 < x.mine ∧ x.mine < y.mine ∧ y.mine < 500) : Cf Tryd.prog 7 [] [.sl (.s (keyN 1) :: .s [] :: .b x.live :: .s x.send :: .s x.take :: .i x.mine :: .i x.theirs :: .i x.born :: .i x.cnt :: .b x.sn :: .i x.la :: .u64 x.bi :: .b x.first :: .b false :: .s [] :: .s [] :: .i 0 :: .i 0 :: .i 0 :: .i 0 :: .b false :: .i 0 :: .v (.int .u64 0) :: .b false :: .b false :: .s [] :: .s [] :: .i 0 :: .i 0 :: .i 0 :: .i 0 :: .b false :: .i 0 :: .v (.int .u64 0) :: .b false :: .b false :: .i 0 :: .s [] :: .i 0 :: .i 0 :: .nil :: .s (keyN 2) :: .s [] :: .b false :: .s [] :: .s [] :: .i 0 :: .i 0 :: .i 0 :: .i 0 :: .b false :: .i 0 :: .v (.int .u64 0) :: .b false :: .b false :: .s [] :: .s [] :: .i 0 :: .i 0 :: .i 0 :: .i 0 :: .b false :: .i 0 :: .v (.int .u64 0) :: .b false :: .b y.live :: .s y.send :: .s y.take :: .i y.mine :: .i y.theirs :: .i y.born :: .i y.cnt :: .b y.sn :: .i y.la :: .u64 y.bi :: .b y.first :: .b true :: .i 500 :: .s hellW :: .i 0 :: .i 0 :: .nil :: []) 2] [] (.i 0) := by
  have hR0 := cf_Right1O hx
  have hR1 := cf_Right2O hy
  refine Cf.introR tabT {nl := [(3, 3, 1)], bo := [47]} (DR _ _ _ tabT {nl := [(3, 3, 1)], bo := [47]}) (by kernel_rfl) tab_ok Tryd.func7 Tryd.ntmps7 rfl rfl (DR_ok tab_ok (by kernel_rfl)) (by kernel_rfl) ?_
  refine knF ?_
  refine ⟨Nat, fun i => ⟨[(0, .sl (.s (keyN 1) :: .s [] :: .b x.live :: .s x.send :: .s x.take :: .i x.mine :: .i x.theirs :: .i x.born :: .i x.cnt :: .b x.sn :: .i x.la :: .u64 x.bi :: .b x.first :: .b false :: .s [] :: .s [] :: .i 0 :: .i 0 :: .i 0 :: .i 0 :: .b false :: .i 0 :: .v (.int .u64 0) :: .b false :: .b false :: .s [] :: .s [] :: .i 0 :: .i 0 :: .i 0 :: .i 0 :: .b false :: .i 0 :: .v (.int .u64 0) :: .b false :: .b false :: .i 0 :: .s [] :: .i 0 :: .i 0 :: .nil :: .s (keyN 2) :: .s [] :: .b false :: .s [] :: .s [] :: .i 0 :: .i 0 :: .i 0 :: .i 0 :: .b false :: .i 0 :: .v (.int .u64 0) :: .b false :: .b false :: .s [] :: .s [] :: .i 0 :: .i 0 :: .i 0 :: .i 0 :: .b false :: .i 0 :: .v (.int .u64 0) :: .b false :: .b y.live :: .s y.send :: .s y.take :: .i y.mine :: .i y.theirs :: .i y.born :: .i y.cnt :: .b y.sn :: .i y.la :: .u64 y.bi :: .b y.first :: .b true :: .i 500 :: .s hellW :: .i 0 :: .i 0 :: .nil :: []) 2), (2, .i 0), (3, .osl 61 (5 * i)), (12, .sl (.s (keyN 1) :: .s [] :: .b x.live :: .s x.send :: .s x.take :: .i x.mine :: .i x.theirs :: .i x.born :: .i x.cnt :: .b x.sn :: .i x.la :: .u64 x.bi :: .b x.first :: .b false :: .s [] :: .s [] :: .i 0 :: .i 0 :: .i 0 :: .i 0 :: .b false :: .i 0 :: .v (.int .u64 0) :: .b false :: .b false :: .s [] :: .s [] :: .i 0 :: .i 0 :: .i 0 :: .i 0 :: .b false :: .i 0 :: .v (.int .u64 0) :: .b false :: .b false :: .i 0 :: .s [] :: .i 0 :: .i 0 :: .nil :: .s (keyN 2) :: .s [] :: .b false :: .s [] :: .s [] :: .i 0 :: .i 0 :: .i 0 :: .i 0 :: .b false :: .i 0 :: .v (.int .u64 0) :: .b false :: .b false :: .s [] :: .s [] :: .i 0 :: .i 0 :: .i 0 :: .i 0 :: .b false :: .i 0 :: .v (.int .u64 0) :: .b false :: .b y.live :: .s y.send :: .s y.take :: .i y.mine :: .i y.theirs :: .i y.born :: .i y.cnt :: .b y.sn :: .i y.la :: .u64 y.bi :: .b y.first :: .b true :: .i 500 :: .s hellW :: .i 0 :: .i 0 :: .nil :: []) 2), (13, .i 2), (14, .i (i : Int))], [(61, .rz (5 * i) 1 (fun a b => .i ((nmL x y).getD a 0)) 3 0)]⟩, fun i => i ≤ 2, fun i => 2 - i, 0, by omega, ?_, fun i hx1 => ?_⟩
  · skip
    repeat (refine Ob.mk ?_ ?_; focus (first | (exact Eq.refl _) | omega))
    trivial
  refine ⟨fun h2 => ?_, fun h2 => ?_⟩
  · skip
    have c2 := h2
    (simp only [bsX] at c2)
    rcases (by omega : i = 0 ∨ i = 1) with rfl | rfl
    · skip
      repeat (refine Ob.mk ?_ ?_; focus (omega))
      refine ⟨_, _, _, _, hR0, ?_⟩
      repeat (refine Ob.mk ?_ ?_; focus ((exact Eq.refl _)))
      refine knF ?_
      refine ⟨[0, 1, 3, 7, 15, 7, 7, 71, 231, 487, 999, 2047, 4095], by kernel_rfl, ?_⟩
      repeat (refine Ob.mk ?_ ?_; (focus (first | omega | (exact fun hg => beq_t hg) | (intro hg; ((simp_all; done))))))
      refine ⟨fun h4 => ?_, fun h4 => ?_⟩
      · skip
        (simp only [Int.reduceToNat, UInt8.reduceOfNat] at h4)
        have c4 := h4
        (simp only [bsX] at c4)
        exact absurd h4 (by decide)
      · skip
        (simp only [Int.reduceToNat, UInt8.reduceOfNat] at h4)
        have c4 := h4
        (simp only [bsX] at c4)
        refine ⟨_, _, _, _, (cf_num0O (x := x) (y := y)), ?_⟩
        repeat (refine Ob.mk ?_ ?_; focus ((exact Eq.refl _)))
        refine ⟨Nat, fun j => ⟨[(0, .sl (.s (keyN 1) :: .s [] :: .b x.live :: .s x.send :: .s x.take :: .i x.mine :: .i x.theirs :: .i x.born :: .i x.cnt :: .b x.sn :: .i x.la :: .u64 x.bi :: .b x.first :: .b false :: .s [] :: .s [] :: .i 0 :: .i 0 :: .i 0 :: .i 0 :: .b false :: .i 0 :: .v (.int .u64 0) :: .b false :: .b false :: .s [] :: .s [] :: .i 0 :: .i 0 :: .i 0 :: .i 0 :: .b false :: .i 0 :: .v (.int .u64 0) :: .b false :: .b false :: .i 0 :: .s [] :: .i 0 :: .i 0 :: .nil :: .s (keyN 2) :: .s [] :: .b false :: .s [] :: .s [] :: .i 0 :: .i 0 :: .i 0 :: .i 0 :: .b false :: .i 0 :: .v (.int .u64 0) :: .b false :: .b false :: .s [] :: .s [] :: .i 0 :: .i 0 :: .i 0 :: .i 0 :: .b false :: .i 0 :: .v (.int .u64 0) :: .b false :: .b y.live :: .s y.send :: .s y.take :: .i y.mine :: .i y.theirs :: .i y.born :: .i y.cnt :: .b y.sn :: .i y.la :: .u64 y.bi :: .b y.first :: .b true :: .i 500 :: .s hellW :: .i 0 :: .i 0 :: .nil :: []) 2), (2, .i 0), (3, .osl 61 (5 * 0 + j)), (12, .sl (.s (keyN 1) :: .s [] :: .b x.live :: .s x.send :: .s x.take :: .i x.mine :: .i x.theirs :: .i x.born :: .i x.cnt :: .b x.sn :: .i x.la :: .u64 x.bi :: .b x.first :: .b false :: .s [] :: .s [] :: .i 0 :: .i 0 :: .i 0 :: .i 0 :: .b false :: .i 0 :: .v (.int .u64 0) :: .b false :: .b false :: .s [] :: .s [] :: .i 0 :: .i 0 :: .i 0 :: .i 0 :: .b false :: .i 0 :: .v (.int .u64 0) :: .b false :: .b false :: .i 0 :: .s [] :: .i 0 :: .i 0 :: .nil :: .s (keyN 2) :: .s [] :: .b false :: .s [] :: .s [] :: .i 0 :: .i 0 :: .i 0 :: .i 0 :: .b false :: .i 0 :: .v (.int .u64 0) :: .b false :: .b false :: .s [] :: .s [] :: .i 0 :: .i 0 :: .i 0 :: .i 0 :: .b false :: .i 0 :: .v (.int .u64 0) :: .b false :: .b y.live :: .s y.send :: .s y.take :: .i y.mine :: .i y.theirs :: .i y.born :: .i y.cnt :: .b y.sn :: .i y.la :: .u64 y.bi :: .b y.first :: .b true :: .i 500 :: .s hellW :: .i 0 :: .i 0 :: .nil :: []) 2), (13, .i 2), (14, .i (0 : Int)), (38, .agg (nm0 x y)), (39, .i (j : Int))], [(61, .rz (5 * 0 + j) 1 (fun a b => .i ((nmL x y).getD a 0)) 3 0)]⟩, fun j => j ≤ 5, fun j => 5 - j, 0, by omega, ?_, fun j hx2 => ?_⟩
        · skip
          repeat (refine Ob.mk ?_ ?_; focus (first | (exact Eq.refl _) | omega))
          trivial
        refine ⟨fun h5 => ?_, fun h5 => ?_⟩
        · skip
          have c5 := h5
          (simp only [bsX] at c5)
          rcases (by omega : j = 0 ∨ j = 1 ∨ j = 2 ∨ j = 3 ∨ j = 4) with rfl | rfl | rfl | rfl | rfl
          · skip
            repeat (refine Ob.mk ?_ ?_; focus (omega))
            refine gx2 (cf_hasLO (N := nmL x y) (n := 5 * 0 + 0) (x := (nmL x y).getD (5 * 0 + 0) 0) (by omega) (by simp only [nmL, List.length_cons, List.length_nil]; omega)) (fun hk => ⟨fun _ => hk, ?_⟩)
            repeat (refine Ob.mk ?_ ?_; (focus (first | (intro _; exact Eq.refl _) | omega | (exact fun hg => beq_t hg))))
            refine ⟨fun h6 => ?_, fun h6 => ?_⟩
            · skip
              have c6 := h6
              (simp only [bsX] at c6)
              exact absurd h6 (by (simp [nmL]; done))
            · skip
              have c6 := h6
              (simp only [bsX] at c6)
              repeat (refine Ob.mk ?_ ?_; focus (first | (exact Eq.refl _) | omega | (exact Nat.le_of_ble_eq_true rfl)))
              refine ⟨0 + 1, (by omega), (by (exact Nat.le_of_ble_eq_true rfl)), ?_⟩
              repeat (refine Ob.mk ?_ ?_; focus (first | (exact int_snoc rfl) | (exact Eq.refl _) | (exact Nat.le_of_ble_eq_true rfl)))
              trivial
          · skip
            repeat (refine Ob.mk ?_ ?_; focus (omega))
            refine gx2 (cf_hasLO (N := nmL x y) (n := 5 * 0 + 1) (x := (nmL x y).getD (5 * 0 + 1) 0) (by omega) (by simp only [nmL, List.length_cons, List.length_nil]; omega)) (fun hk => ⟨fun _ => hk, ?_⟩)
            repeat (refine Ob.mk ?_ ?_; (focus (first | (intro _; exact Eq.refl _) | (exact fun hg => beq_t hg) | (exact fun hg => hg) | (intro hg; ((intro hq; ((simp_all; done))))))))
            refine ⟨fun h7 => ?_, fun h7 => ?_⟩
            · skip
              have c7 := h7
              (simp only [bsX] at c7)
              exact absurd h7 (by (simp [nmL]; omega))
            · skip
              have c7 := h7
              (simp only [bsX] at c7)
              repeat (refine Ob.mk ?_ ?_; focus (first | (exact Eq.refl _) | omega | (exact Nat.le_of_ble_eq_true rfl)))
              refine ⟨1 + 1, (by omega), (by (exact Nat.le_of_ble_eq_true rfl)), ?_⟩
              repeat (refine Ob.mk ?_ ?_; focus (first | (exact int_snoc rfl) | (exact Eq.refl _) | (exact Nat.le_of_ble_eq_true rfl)))
              trivial
          · skip
            repeat (refine Ob.mk ?_ ?_; focus (omega))
            refine gx2 (cf_hasLO (N := nmL x y) (n := 5 * 0 + 2) (x := (nmL x y).getD (5 * 0 + 2) 0) (by omega) (by simp only [nmL, List.length_cons, List.length_nil]; omega)) (fun hk => ⟨fun _ => hk, ?_⟩)
            repeat (refine Ob.mk ?_ ?_; (focus (first | (intro _; exact Eq.refl _) | (exact fun hg => beq_t hg) | (intro hg; ((intro hq; ((simp_all; done))))))))
            refine ⟨fun h8 => ?_, fun h8 => ?_⟩
            · skip
              have c8 := h8
              (simp only [bsX] at c8)
              exact absurd h8 (by (simp [nmL]; done))
            · skip
              have c8 := h8
              (simp only [bsX] at c8)
              repeat (refine Ob.mk ?_ ?_; focus (first | (exact Eq.refl _) | omega | (exact Nat.le_of_ble_eq_true rfl)))
              refine ⟨2 + 1, (by omega), (by (exact Nat.le_of_ble_eq_true rfl)), ?_⟩
              repeat (refine Ob.mk ?_ ?_; focus (first | (exact int_snoc rfl) | (exact Eq.refl _) | (exact Nat.le_of_ble_eq_true rfl)))
              trivial
          · skip
            repeat (refine Ob.mk ?_ ?_; focus (omega))
            refine gx2 (cf_hasLO (N := nmL x y) (n := 5 * 0 + 3) (x := (nmL x y).getD (5 * 0 + 3) 0) (by omega) (by simp only [nmL, List.length_cons, List.length_nil]; omega)) (fun hk => ⟨fun _ => hk, ?_⟩)
            repeat (refine Ob.mk ?_ ?_; (focus (first | (intro _; exact Eq.refl _) | (exact fun hg => beq_t hg) | (intro hg; ((intro hq; ((simp_all; done))))))))
            refine ⟨fun h9 => ?_, fun h9 => ?_⟩
            · skip
              have c9 := h9
              (simp only [bsX] at c9)
              exact absurd h9 (by (simp [nmL]; done))
            · skip
              have c9 := h9
              (simp only [bsX] at c9)
              repeat (refine Ob.mk ?_ ?_; focus (first | (exact Eq.refl _) | omega | (exact Nat.le_of_ble_eq_true rfl)))
              refine ⟨3 + 1, (by omega), (by (exact Nat.le_of_ble_eq_true rfl)), ?_⟩
              repeat (refine Ob.mk ?_ ?_; focus (first | (exact int_snoc rfl) | (exact Eq.refl _) | (exact Nat.le_of_ble_eq_true rfl)))
              trivial
          · skip
            repeat (refine Ob.mk ?_ ?_; focus (omega))
            refine gx2 (cf_hasLO (N := nmL x y) (n := 5 * 0 + 4) (x := (nmL x y).getD (5 * 0 + 4) 0) (by omega) (by simp only [nmL, List.length_cons, List.length_nil]; omega)) (fun hk => ⟨fun _ => hk, ?_⟩)
            repeat (refine Ob.mk ?_ ?_; (focus (first | (intro _; exact Eq.refl _) | (exact fun hg => beq_t hg) | (intro hg; ((intro hq; ((simp_all; done))))))))
            refine ⟨fun h10 => ?_, fun h10 => ?_⟩
            · skip
              have c10 := h10
              (simp only [bsX] at c10)
              exact absurd h10 (by (simp [nmL]; done))
            · skip
              have c10 := h10
              (simp only [bsX] at c10)
              repeat (refine Ob.mk ?_ ?_; focus (first | (exact Eq.refl _) | omega | (exact Nat.le_of_ble_eq_true rfl)))
              refine ⟨4 + 1, (by omega), (by (exact Nat.le_of_ble_eq_true rfl)), ?_⟩
              repeat (refine Ob.mk ?_ ?_; focus (first | (exact int_snoc rfl) | (exact Eq.refl _) | (exact Nat.le_of_ble_eq_true rfl)))
              trivial
        · skip
          have c5 := h5
          (simp only [bsX] at c5)
          obtain rfl : j = 5 := by omega
          repeat (refine Ob.mk ?_ ?_; focus (omega))
          refine ⟨0 + 1, (by omega), (by (exact Nat.le_of_ble_eq_true rfl)), ?_⟩
          repeat (refine Ob.mk ?_ ?_; (focus (first | (exact Eq.refl _) | omega | (intro hg; ((intro hq; ((simp_all; done))))))))
          trivial
    · skip
      repeat (refine Ob.mk ?_ ?_; focus (omega))
      refine ⟨_, _, _, _, hR1, ?_⟩
      repeat (refine Ob.mk ?_ ?_; focus ((exact Eq.refl _)))
      refine knF ?_
      refine ⟨[0, 1, 3, 7, 15, 7, 7, 71, 231, 487, 999, 2047, 4095], by kernel_rfl, ?_⟩
      repeat (refine Ob.mk ?_ ?_; (focus (first | (intro _; exact Eq.refl _) | omega)))
      refine ⟨fun h12 => ?_, fun h12 => ?_⟩
      · skip
        have c12 := h12
        (simp only [bsX] at c12)
        exact absurd h12 (by decide +kernel)
      · skip
        have c12 := h12
        (simp only [bsX] at c12)
        refine ⟨_, _, _, _, (cf_num1O (x := x) (y := y)), ?_⟩
        repeat (refine Ob.mk ?_ ?_; focus ((exact Eq.refl _)))
        refine ⟨Nat, fun j => ⟨[(0, .sl (.s (keyN 1) :: .s [] :: .b x.live :: .s x.send :: .s x.take :: .i x.mine :: .i x.theirs :: .i x.born :: .i x.cnt :: .b x.sn :: .i x.la :: .u64 x.bi :: .b x.first :: .b false :: .s [] :: .s [] :: .i 0 :: .i 0 :: .i 0 :: .i 0 :: .b false :: .i 0 :: .v (.int .u64 0) :: .b false :: .b false :: .s [] :: .s [] :: .i 0 :: .i 0 :: .i 0 :: .i 0 :: .b false :: .i 0 :: .v (.int .u64 0) :: .b false :: .b false :: .i 0 :: .s [] :: .i 0 :: .i 0 :: .nil :: .s (keyN 2) :: .s [] :: .b false :: .s [] :: .s [] :: .i 0 :: .i 0 :: .i 0 :: .i 0 :: .b false :: .i 0 :: .v (.int .u64 0) :: .b false :: .b false :: .s [] :: .s [] :: .i 0 :: .i 0 :: .i 0 :: .i 0 :: .b false :: .i 0 :: .v (.int .u64 0) :: .b false :: .b y.live :: .s y.send :: .s y.take :: .i y.mine :: .i y.theirs :: .i y.born :: .i y.cnt :: .b y.sn :: .i y.la :: .u64 y.bi :: .b y.first :: .b true :: .i 500 :: .s hellW :: .i 0 :: .i 0 :: .nil :: []) 2), (2, .i 0), (3, .osl 61 (5 * 1 + j)), (12, .sl (.s (keyN 1) :: .s [] :: .b x.live :: .s x.send :: .s x.take :: .i x.mine :: .i x.theirs :: .i x.born :: .i x.cnt :: .b x.sn :: .i x.la :: .u64 x.bi :: .b x.first :: .b false :: .s [] :: .s [] :: .i 0 :: .i 0 :: .i 0 :: .i 0 :: .b false :: .i 0 :: .v (.int .u64 0) :: .b false :: .b false :: .s [] :: .s [] :: .i 0 :: .i 0 :: .i 0 :: .i 0 :: .b false :: .i 0 :: .v (.int .u64 0) :: .b false :: .b false :: .i 0 :: .s [] :: .i 0 :: .i 0 :: .nil :: .s (keyN 2) :: .s [] :: .b false :: .s [] :: .s [] :: .i 0 :: .i 0 :: .i 0 :: .i 0 :: .b false :: .i 0 :: .v (.int .u64 0) :: .b false :: .b false :: .s [] :: .s [] :: .i 0 :: .i 0 :: .i 0 :: .i 0 :: .b false :: .i 0 :: .v (.int .u64 0) :: .b false :: .b y.live :: .s y.send :: .s y.take :: .i y.mine :: .i y.theirs :: .i y.born :: .i y.cnt :: .b y.sn :: .i y.la :: .u64 y.bi :: .b y.first :: .b true :: .i 500 :: .s hellW :: .i 0 :: .i 0 :: .nil :: []) 2), (13, .i 2), (14, .i (1 : Int)), (38, .agg (nm1 x y)), (39, .i (j : Int))], [(61, .rz (5 * 1 + j) 1 (fun a b => .i ((nmL x y).getD a 0)) 3 0)]⟩, fun j => j ≤ 5, fun j => 5 - j, 0, by omega, ?_, fun j hx2 => ?_⟩
        · skip
          repeat (refine Ob.mk ?_ ?_; (focus (first | (exact Eq.refl _) | omega | (intro hg; ((intro hq; ((simp_all; done))))))))
          trivial
        refine ⟨fun h13 => ?_, fun h13 => ?_⟩
        · skip
          have c13 := h13
          (simp only [bsX] at c13)
          rcases (by omega : j = 0 ∨ j = 1 ∨ j = 2 ∨ j = 3 ∨ j = 4) with rfl | rfl | rfl | rfl | rfl
          · skip
            repeat (refine Ob.mk ?_ ?_; focus (omega))
            refine gx2 (cf_hasLO (N := nmL x y) (n := 5 * 1 + 0) (x := (nmL x y).getD (5 * 1 + 0) 0) (by omega) (by simp only [nmL, List.length_cons, List.length_nil]; omega)) (fun hk => ⟨fun _ => hk, ?_⟩)
            repeat (refine Ob.mk ?_ ?_; (focus (first | (intro _; exact Eq.refl _) | (exact fun hg => beq_t hg) | (intro hg; ((intro hq; ((simp_all; done))))))))
            refine ⟨fun h14 => ?_, fun h14 => ?_⟩
            · skip
              have c14 := h14
              (simp only [bsX] at c14)
              exact absurd h14 (by (simp [nmL]; done))
            · skip
              have c14 := h14
              (simp only [bsX] at c14)
              repeat (refine Ob.mk ?_ ?_; focus (first | (exact Eq.refl _) | omega | (exact Nat.le_of_ble_eq_true rfl)))
              refine ⟨0 + 1, (by omega), (by (exact Nat.le_of_ble_eq_true rfl)), ?_⟩
              repeat (refine Ob.mk ?_ ?_; focus (first | (exact int_snoc rfl) | (exact Eq.refl _) | (exact Nat.le_of_ble_eq_true rfl)))
              trivial
          · skip
            repeat (refine Ob.mk ?_ ?_; focus (omega))
            refine gx2 (cf_hasLO (N := nmL x y) (n := 5 * 1 + 1) (x := (nmL x y).getD (5 * 1 + 1) 0) (by omega) (by simp only [nmL, List.length_cons, List.length_nil]; omega)) (fun hk => ⟨fun _ => hk, ?_⟩)
            repeat (refine Ob.mk ?_ ?_; (focus (first | (intro _; exact Eq.refl _) | (exact fun hg => beq_t hg) | (intro hg; ((intro hq; ((simp_all; done))))))))
            refine ⟨fun h15 => ?_, fun h15 => ?_⟩
            · skip
              have c15 := h15
              (simp only [bsX] at c15)
              exact absurd h15 (by (simp [nmL]; done))
            · skip
              have c15 := h15
              (simp only [bsX] at c15)
              repeat (refine Ob.mk ?_ ?_; focus (first | (exact Eq.refl _) | omega | (exact Nat.le_of_ble_eq_true rfl)))
              refine ⟨1 + 1, (by omega), (by (exact Nat.le_of_ble_eq_true rfl)), ?_⟩
              repeat (refine Ob.mk ?_ ?_; focus (first | (exact int_snoc rfl) | (exact Eq.refl _) | (exact Nat.le_of_ble_eq_true rfl)))
              trivial
          · skip
            repeat (refine Ob.mk ?_ ?_; focus (omega))
            refine gx2 (cf_hasLO (N := nmL x y) (n := 5 * 1 + 2) (x := (nmL x y).getD (5 * 1 + 2) 0) (by omega) (by simp only [nmL, List.length_cons, List.length_nil]; omega)) (fun hk => ⟨fun _ => hk, ?_⟩)
            repeat (refine Ob.mk ?_ ?_; (focus (first | (intro _; exact Eq.refl _) | (exact fun hg => beq_t hg) | (intro hg; ((intro hq; ((simp_all; done))))))))
            refine ⟨fun h16 => ?_, fun h16 => ?_⟩
            · skip
              have c16 := h16
              (simp only [bsX] at c16)
              exact absurd h16 (by (simp [nmL]; done))
            · skip
              have c16 := h16
              (simp only [bsX] at c16)
              repeat (refine Ob.mk ?_ ?_; focus (first | (exact Eq.refl _) | omega | (exact Nat.le_of_ble_eq_true rfl)))
              refine ⟨2 + 1, (by omega), (by (exact Nat.le_of_ble_eq_true rfl)), ?_⟩
              repeat (refine Ob.mk ?_ ?_; focus (first | (exact int_snoc rfl) | (exact Eq.refl _) | (exact Nat.le_of_ble_eq_true rfl)))
              trivial
          · skip
            repeat (refine Ob.mk ?_ ?_; focus (omega))
            refine gx2 (cf_hasLO (N := nmL x y) (n := 5 * 1 + 3) (x := (nmL x y).getD (5 * 1 + 3) 0) (by omega) (by simp only [nmL, List.length_cons, List.length_nil]; omega)) (fun hk => ⟨fun _ => hk, ?_⟩)
            repeat (refine Ob.mk ?_ ?_; (focus (first | (intro _; exact Eq.refl _) | (exact fun hg => beq_t hg) | (exact fun hg => hg) | (intro hg; ((intro hq; ((simp_all; done))))))))
            refine ⟨fun h17 => ?_, fun h17 => ?_⟩
            · skip
              have c17 := h17
              (simp only [bsX] at c17)
              exact absurd h17 (by (simp [nmL]; omega))
            · skip
              have c17 := h17
              (simp only [bsX] at c17)
              repeat (refine Ob.mk ?_ ?_; focus (first | (exact Eq.refl _) | omega | (exact Nat.le_of_ble_eq_true rfl)))
              refine ⟨3 + 1, (by omega), (by (exact Nat.le_of_ble_eq_true rfl)), ?_⟩
              repeat (refine Ob.mk ?_ ?_; focus (first | (exact int_snoc rfl) | (exact Eq.refl _) | (exact Nat.le_of_ble_eq_true rfl)))
              trivial
          · skip
            repeat (refine Ob.mk ?_ ?_; focus (omega))
            refine gx2 (cf_hasLO (N := nmL x y) (n := 5 * 1 + 4) (x := (nmL x y).getD (5 * 1 + 4) 0) (by omega) (by simp only [nmL, List.length_cons, List.length_nil]; omega)) (fun hk => ⟨fun _ => hk, ?_⟩)
            repeat (refine Ob.mk ?_ ?_; (focus (first | (intro _; exact Eq.refl _) | (intro hg; ((intro hq; ((simp_all; done))))))))
            refine ⟨fun h18 => ?_, fun h18 => ?_⟩
            · skip
              have c18 := h18
              (simp only [bsX] at c18)
              exact absurd h18 (by (simp [nmL]; omega))
            · skip
              have c18 := h18
              (simp only [bsX] at c18)
              repeat (refine Ob.mk ?_ ?_; focus (first | (exact Eq.refl _) | omega | (exact Nat.le_of_ble_eq_true rfl)))
              refine ⟨4 + 1, (by omega), (by (exact Nat.le_of_ble_eq_true rfl)), ?_⟩
              repeat (refine Ob.mk ?_ ?_; focus (first | (exact int_snoc rfl) | (exact Eq.refl _) | (exact Nat.le_of_ble_eq_true rfl)))
              trivial
        · skip
          have c13 := h13
          (simp only [bsX] at c13)
          obtain rfl : j = 5 := by omega
          repeat (refine Ob.mk ?_ ?_; focus (omega))
          refine ⟨1 + 1, (by omega), (by (exact Nat.le_of_ble_eq_true rfl)), ?_⟩
          repeat (refine Ob.mk ?_ ?_; (focus (first | (exact Eq.refl _) | omega | (intro hg; ((intro hq; ((simp_all; done))))))))
          trivial
  · skip
    have c2 := h2
    (simp only [bsX] at c2)
    repeat (refine Ob.mk ?_ ?_; focus ((exact Eq.refl _)))
    trivial
def hitI (N : List Int) (n : Int) : Prop := 0 < n ∧ 0 < idxI N n
instance (N : List Int) (n : Int) : Decidable (hitI N n) := by unfold hitI; infer_instance
abbrev nI0 (x y : KS) : List Int := [0, x.mine, 0, 0, 0]
abbrev nI1 (x y : KS) : List Int := [0, 0, 0, y.mine, 500]
def fdI (x y : KS) (n : Int) : Int × Int × Int :=
  if hitI (nI0 x y) n then (0, idxI (nI0 x y) n, 0) else if hitI (nI1 x y) n then (1, idxI (nI1 x y) n, 0) else (0, 0, 5)
theorem fd_0 {Q : Prop} {x y : KS} {n : Int} (_ : Q) (h : hitI (nI0 x y) n) : fdI x y n = (0, idxI (nI0 x y) n, 0) := if_pos h
theorem fd_1 {x y : KS} {n : Int} {Q : Prop} (h0 : Q ∧ (1 ≤ 1 → ¬ hitI (nI0 x y) n) ∧ (2 ≤ 1 → ¬ hitI (nI1 x y) n)) (h : hitI (nI1 x y) n) : fdI x y n = (1, idxI (nI1 x y) n, 0) := (if_neg (h0.2.1 (by decide))).trans (if_pos h)
theorem fn_0 {Q : Prop} {x y : KS} {n : Int} (_ : Q) (h : ¬ hitI (nI0 x y) n) : 0 + 1 ≤ 2 ∧ (1 ≤ 0 + 1 → ¬ hitI (nI0 x y) n) ∧ (2 ≤ 0 + 1 → ¬ hitI (nI1 x y) n) := ⟨by decide, fun _ => h, fun k => absurd k (by decide)⟩
theorem fn_1 {Q : Prop} {x y : KS} {n : Int} (h0 : Q ∧ (1 ≤ 1 → ¬ hitI (nI0 x y) n) ∧ (2 ≤ 1 → ¬ hitI (nI1 x y) n)) (h : ¬ hitI (nI1 x y) n) : 1 + 1 ≤ 2 ∧ (1 ≤ 1 + 1 → ¬ hitI (nI0 x y) n) ∧ (2 ≤ 1 + 1 → ¬ hitI (nI1 x y) n) := ⟨by decide, fun _ => h0.2.1 (by decide), fun _ => h⟩
set_option maxRecDepth 100000 in
set_option maxHeartbeats 4000000 in
theorem cf_tFind {x y : KS} {n : Int} : Cf Tryd.prog 9 [] [.sl (.s (keyN 1) :: .s [] :: .b x.live :: .s x.send :: .s x.take :: .i x.mine :: .i x.theirs :: .i x.born :: .i x.cnt :: .b x.sn :: .i x.la :: .u64 x.bi :: .b x.first :: .b false :: .s [] :: .s [] :: .i 0 :: .i 0 :: .i 0 :: .i 0 :: .b false :: .i 0 :: .v (.int .u64 0) :: .b false :: .b false :: .s [] :: .s [] :: .i 0 :: .i 0 :: .i 0 :: .i 0 :: .b false :: .i 0 :: .v (.int .u64 0) :: .b false :: .b false :: .i 0 :: .s [] :: .i 0 :: .i 0 :: .nil :: .s (keyN 2) :: .s [] :: .b false :: .s [] :: .s [] :: .i 0 :: .i 0 :: .i 0 :: .i 0 :: .b false :: .i 0 :: .v (.int .u64 0) :: .b false :: .b false :: .s [] :: .s [] :: .i 0 :: .i 0 :: .i 0 :: .i 0 :: .b false :: .i 0 :: .v (.int .u64 0) :: .b false :: .b y.live :: .s y.send :: .s y.take :: .i y.mine :: .i y.theirs :: .i y.born :: .i y.cnt :: .b y.sn :: .i y.la :: .u64 y.bi :: .b y.first :: .b true :: .i 500 :: .s hellW :: .i 0 :: .i 0 :: .nil :: []) 2, .i n] [] (.tup [.i (fdI x y n).1, .i (fdI x y n).2.1, .i (fdI x y n).2.2]) := by
  have hI0 := cf_idx5O (a := 0) (b := x.mine) (c := 0) (d := 0) (e := 0) (x := n)
  have hI1 := cf_idx5O (a := 0) (b := 0) (c := 0) (d := y.mine) (e := 500) (x := n)
  refine Cf.introR tabT {fk := [20]} D0 (by kernel_rfl) tab_ok Tryd.func9 Tryd.ntmps9 rfl rfl (D0_ok) (by kernel_rfl) ?_
  refine ⟨Nat, fun i => ⟨[(1, .i n), (4, .i 0), (5, .i 0), (6, .i 0), (11, .sl (.s (keyN 1) :: .s [] :: .b x.live :: .s x.send :: .s x.take :: .i x.mine :: .i x.theirs :: .i x.born :: .i x.cnt :: .b x.sn :: .i x.la :: .u64 x.bi :: .b x.first :: .b false :: .s [] :: .s [] :: .i 0 :: .i 0 :: .i 0 :: .i 0 :: .b false :: .i 0 :: .v (.int .u64 0) :: .b false :: .b false :: .s [] :: .s [] :: .i 0 :: .i 0 :: .i 0 :: .i 0 :: .b false :: .i 0 :: .v (.int .u64 0) :: .b false :: .b false :: .i 0 :: .s [] :: .i 0 :: .i 0 :: .nil :: .s (keyN 2) :: .s [] :: .b false :: .s [] :: .s [] :: .i 0 :: .i 0 :: .i 0 :: .i 0 :: .b false :: .i 0 :: .v (.int .u64 0) :: .b false :: .b false :: .s [] :: .s [] :: .i 0 :: .i 0 :: .i 0 :: .i 0 :: .b false :: .i 0 :: .v (.int .u64 0) :: .b false :: .b y.live :: .s y.send :: .s y.take :: .i y.mine :: .i y.theirs :: .i y.born :: .i y.cnt :: .b y.sn :: .i y.la :: .u64 y.bi :: .b y.first :: .b true :: .i 500 :: .s hellW :: .i 0 :: .i 0 :: .nil :: []) 2), (12, .i 2), (13, .i (i : Int))], []⟩, fun i => i ≤ 2 ∧ (1 ≤ i → ¬ hitI (nI0 x y) n) ∧ (2 ≤ i → ¬ hitI (nI1 x y) n), fun i => 2 - i, 0, by omega, ?_, fun i hx1 => ?_⟩
  · skip
    repeat (refine Ob.mk ?_ ?_; focus ((exact Eq.refl _)))
    trivial
  refine ⟨fun h1 => ?_, fun h1 => ?_⟩
  · skip
    have c1 := h1
    (simp only [bsX] at c1)
    rcases (by omega : i = 0 ∨ i = 1) with rfl | rfl
    · skip
      repeat (refine Ob.mk ?_ ?_; focus (omega))
      refine ⟨_, _, _, _, (cf_num0O (x := x) (y := y)), ?_⟩
      repeat (refine Ob.mk ?_ ?_; focus ((exact Eq.refl _)))
      refine ⟨_, _, _, _, hI0, ?_⟩
      repeat (refine Ob.mk ?_ ?_; focus (first | (exact Eq.refl _) | (exact fun hg => beq_t hg) | (exact fun hg => hg)))
      refine ⟨fun h2 => ?_, fun h2 => ?_⟩
      · skip
        have c2 := h2
        (simp only [bsX] at c2)
        have hh := fd_0 (x := x) (y := y) (n := n) hx1 c2
        repeat (refine Ob.mk ?_ ?_; (focus (first | (rw [hh]; done) | (simp_all; done))))
        trivial
      · skip
        have c2 := h2
        (simp only [bsX] at c2)
        have hh := fn_0 (x := x) (y := y) (n := n) hx1 (fun k => c2.elim (fun q => q k.1) (fun q => q k.2))
        repeat (refine Ob.mk ?_ ?_; focus (omega))
        refine ⟨0 + 1, (by assumption), (by (exact Nat.le_of_ble_eq_true rfl)), ?_⟩
        repeat (refine Ob.mk ?_ ?_; focus ((exact Eq.refl _)))
        trivial
    · skip
      repeat (refine Ob.mk ?_ ?_; focus (omega))
      refine ⟨_, _, _, _, (cf_num1O (x := x) (y := y)), ?_⟩
      repeat (refine Ob.mk ?_ ?_; focus ((exact Eq.refl _)))
      refine ⟨_, _, _, _, hI1, ?_⟩
      repeat (refine Ob.mk ?_ ?_; focus (first | (exact Eq.refl _) | (exact fun hg => beq_t hg) | (exact fun hg => hg)))
      refine ⟨fun h3 => ?_, fun h3 => ?_⟩
      · skip
        have c3 := h3
        (simp only [bsX] at c3)
        have hh := fd_1 (x := x) (y := y) (n := n) hx1 c3
        repeat (refine Ob.mk ?_ ?_; (focus (first | (rw [hh]; done) | (simp_all; done))))
        trivial
      · skip
        have c3 := h3
        (simp only [bsX] at c3)
        have hh := fn_1 (x := x) (y := y) (n := n) hx1 (fun k => c3.elim (fun q => q k.1) (fun q => q k.2))
        repeat (refine Ob.mk ?_ ?_; focus (omega))
        refine ⟨1 + 1, (by assumption), (by (exact Nat.le_of_ble_eq_true rfl)), ?_⟩
        repeat (refine Ob.mk ?_ ?_; focus ((exact Eq.refl _)))
        trivial
  · skip
    have c1 := h1
    (simp only [bsX] at c1)
    have hz : fdI x y n = (0, 0, 5) := by unfold fdI; rw [if_neg (hx1.2.1 (by omega)), if_neg (hx1.2.2 (by omega))]
    repeat (refine Ob.mk ?_ ?_; (focus (((rw [hz]; done)))))
    trivial

theorem idx5_hit {b d e n : Int} (h0 : n ≠ 0) : True := trivial
theorem fd_x {x y : KS} (hm : 0 < x.mine ∧ x.mine < y.mine ∧ y.mine < 500) : fdI x y x.mine = (0, 1, 0) := by
  have h1 : ¬ (0 = x.mine) := by omega
  have h1b : ((0 : Int) == x.mine) = false := by rw [beq_eq_false_iff_ne]; exact h1
  have hi : idxI (nI0 x y) x.mine = 1 := by simp [idxI, nI0, List.idxOf_cons, h1b]
  rw [fd_0 trivial ⟨hm.1, by rw [hi]; decide⟩, hi]
theorem fd_y {x y : KS} (hm : 0 < x.mine ∧ x.mine < y.mine ∧ y.mine < 500) : fdI x y y.mine = (1, 3, 0) := by
  have h1 : ¬ (0 = y.mine) := by omega
  have h2 : ¬ (x.mine = y.mine) := by omega
  have h3 : ¬ (y.mine = 0) := by omega
  have h4 : ¬ (y.mine = x.mine) := by omega
  have hi : idxI (nI0 x y) y.mine = -1 := by simp [idxI, nI0, h3, h4]
  have h1b : ((0 : Int) == y.mine) = false := by rw [beq_eq_false_iff_ne]; exact h1
  have hj : idxI (nI1 x y) y.mine = 3 := by simp [idxI, nI1, List.idxOf_cons, h1b]
  unfold fdI
  rw [if_neg (by unfold hitI; rw [hi]; omega), if_pos ⟨by omega, by rw [hj]; decide⟩, hj]
theorem fd_h {x y : KS} (hm : 0 < x.mine ∧ x.mine < y.mine ∧ y.mine < 500) : fdI x y 500 = (1, 4, 0) := by
  have h2 : ¬ (x.mine = 500) := by omega
  have h3 : ¬ (y.mine = 500) := by omega
  have h4 : ¬ (500 = x.mine) := by omega
  have hi : idxI (nI0 x y) 500 = -1 := by simp [idxI, nI0, h4]
  have h1b : (y.mine == (500 : Int)) = false := by rw [beq_eq_false_iff_ne]; exact h3
  have hj : idxI (nI1 x y) 500 = 4 := by simp [idxI, nI1, List.idxOf_cons, h1b]
  unfold fdI
  rw [if_neg (by unfold hitI; rw [hi]; omega), if_pos ⟨by omega, by rw [hj]; decide⟩, hj]
theorem fd_n {x y : KS} (hm : 0 < x.mine ∧ x.mine < y.mine ∧ y.mine < 500) {n : Int} (hn : 500 < n) : fdI x y n = (0, 0, 5) := by
  have h1 : ¬ (n = 0) := by omega
  have h2 : ¬ (n = x.mine) := by omega
  have h3 : ¬ (n = y.mine) := by omega
  have h4 : ¬ (n = 500) := by omega
  have hi : idxI (nI0 x y) n = -1 := by simp [idxI, nI0, h1, h2]
  have hj : idxI (nI1 x y) n = -1 := by simp [idxI, nI1, h1, h3, h4]
  unfold fdI
  rw [if_neg (by unfold hitI; rw [hi]; omega), if_neg (by unfold hitI; rw [hj]; omega)]
set_option maxRecDepth 100000 in
set_option maxHeartbeats 4000000 in
theorem cf_TableFinds {a b n : Int} (ha : IntIn a) (hb : IntIn b) (hn : IntIn n) : Cf Tryd.prog 3 [] [.i a, .i b, .i n] [] (.b true) := by
  have hT := cf_talk (now := 10) ha hb (by decide) (by decide)
  have cx := talkX_ck (now := 10) a b (by decide) (by decide)
  have cy := talkY_ck (now := 10) a b (by decide) (by decide)
  have a1 := pk_ge a (m := 100) (by decide)
  have a2 := pk_lt a (m := 100) (by decide)
  have b1 := pk_ge b (m := 100) (by decide)
  have b2 := pk_lt b (m := 100) (by decide)
  have n1 := pk_ge n (m := 100) (by decide)
  have n2 := pk_lt n (m := 100) (by decide)
  have hm : 0 < (talkX a b 10).mine ∧ (talkX a b 10).mine < (talkY a b 10).mine ∧ (talkY a b 10).mine < 500 := by show 0 < 1 + pk a 100 ∧ 1 + pk a 100 < 101 + pk b 100 ∧ 101 + pk b 100 < 500; omega
  have hk1 := cf_Key (n := 1) ⟨by decide, by decide⟩
  have hk2 := cf_Key (n := 2) ⟨by decide, by decide⟩
  rw [show keyS 1 = keyN 1 from by unfold keyS; rw [show (pk 1 8).toNat = 1 from by decide]] at hk1
  rw [show keyS 2 = keyN 2 from by unfold keyS; rw [show (pk 2 8).toNat = 2 from by decide]] at hk2
  have tC := cf_tCheck cx cy hm
  have tM := cf_tMost (x := talkX a b 10) (y := talkY a b 10) ⟨hm.1, by omega⟩ ⟨by omega, hm.2.2⟩
  have f1 := cf_tFind (x := talkX a b 10) (y := talkY a b 10) (n := (talkX a b 10).mine); rw [fd_x hm] at f1
  have f2 := cf_tFind (x := talkX a b 10) (y := talkY a b 10) (n := (talkY a b 10).mine); rw [fd_y hm] at f2
  have f3 := cf_tFind (x := talkX a b 10) (y := talkY a b 10) (n := 500); rw [fd_h hm] at f3
  have f4 := cf_tFind (x := talkX a b 10) (y := talkY a b 10) (n := 501 + pk n 100); rw [fd_n hm (by omega)] at f4
  refine Cf.introR tabT {fk := [43], fo := [32, 33, 36, 37, 38]} (DR _ _ _ tabT {fk := [43], fo := [32, 33, 36, 37, 38]}) (by kernel_rfl) tab_ok Tryd.func3 Tryd.ntmps3 rfl rfl (DR_ok tab_ok (by kernel_rfl)) (by kernel_rfl) ?_
  refine ⟨_, _, _, _, hT, ?_⟩
  repeat (refine Ob.mk ?_ ?_; focus ((exact Eq.refl _)))
  refine ⟨[0, 0, 2, 7, 1, 0, 32, 0, 241, 511, 1023], by kernel_rfl, ?_⟩
  refine ⟨_, _, _, _, hk1, ?_⟩
  repeat (refine Ob.mk ?_ ?_; focus ((exact Eq.refl _)))
  refine ⟨_, _, _, _, hk2, ?_⟩
  repeat (refine Ob.mk ?_ ?_; focus ((exact Eq.refl _)))
  refine gx2 (tC) (fun hk => ⟨fun _ => hk, ?_⟩)
  repeat (refine Ob.mk ?_ ?_; (focus (((intro _; exact Eq.refl _)))))
  refine gx2 (tM) (fun hk => ⟨fun _ => hk, ?_⟩)
  repeat (refine Ob.mk ?_ ?_; (focus (((intro _; exact Eq.refl _)))))
  refine ⟨fun h1 => ?_, fun h1 => ?_⟩
  · skip
    (simp only [Int.reduceToNat, UInt8.reduceOfNat] at h1)
    have c1 := h1
    (simp only [bsX] at c1)
    repeat (refine Ob.mk ?_ ?_; focus (assumption))
    trivial
  · skip
    (simp only [Int.reduceToNat, UInt8.reduceOfNat] at h1)
    have c1 := h1
    (simp only [bsX] at c1)
    refine ⟨_, _, _, _, f1, ?_⟩
    repeat (refine Ob.mk ?_ ?_; focus ((exact Eq.refl _)))
    refine ⟨_, _, _, _, f2, ?_⟩
    repeat (refine Ob.mk ?_ ?_; focus ((exact Eq.refl _)))
    refine ⟨_, _, _, _, f3, ?_⟩
    repeat (refine Ob.mk ?_ ?_; focus ((exact Eq.refl _)))
    refine ⟨_, _, _, _, (cf_picked (n := n) (m := 100) hn.1 hn.2 (by decide)), ?_⟩
    repeat (refine Ob.mk ?_ ?_; focus (first | (exact Eq.refl _) | omega))
    refine ⟨_, _, _, _, f4, ?_⟩
    repeat (refine Ob.mk ?_ ?_; (focus (first | (exact Eq.refl _) | (intro _; exact Eq.refl _))))
    trivial

end Go.Proofs.YtcebndkiagbddaaDoor
