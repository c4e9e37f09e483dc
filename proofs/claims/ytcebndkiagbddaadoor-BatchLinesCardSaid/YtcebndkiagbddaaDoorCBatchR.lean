/- package batch: lines read as settings, texts parsed, settings printed: contracts. -/
import Derived.Test.YtcebndkiagbddaaDoorCBatch
namespace Go.Proofs.YtcebndkiagbddaaDoor
open Go.RowKit Go.Lib
set_option linter.unusedVariables false
set_option linter.unusedSimpArgs false

theorem kind_hit {w : List UInt8} {i : Nat} (h0 : 0 < i) (h1 : i ≤ 10) (h : wrd i = w) : kindOf w i = (i : Int) := by
  obtain ⟨j, rfl⟩ : ∃ j, i = j + 1 := ⟨i - 1, by omega⟩
  unfold kindOf
  rw [if_pos ⟨h1, h⟩]
theorem kind_miss {w : List UInt8} {i : Nat} (h : ¬ (0 < i ∧ wrd i = w)) : kindOf w i = kindOf w (i - 1) := by
  match i, h with
  | 0, _ => rfl
  | j + 1, h =>
    show (if _ then _ else _) = _
    rw [if_neg fun k => h ⟨by omega, k.2⟩]; rfl
theorem kind_range (w : List UInt8) : ∀ i, 0 ≤ kindOf w i ∧ kindOf w i ≤ 10
  | 0 => by unfold kindOf; omega
  | i + 1 => by
    unfold kindOf
    split
    · omega
    · exact kind_range w i
theorem int11 {k : Int} (h0 : 0 ≤ k) (h1 : k ≤ 10) : k = 0 ∨ k = 1 ∨ k = 2 ∨ k = 3 ∨ k = 4 ∨ k = 5 ∨ k = 6 ∨ k = 7 ∨ k = 8 ∨ k = 9 ∨ k = 10 := by omega
def rdk (k : Int) (v : List UInt8) : SetS :=
  if k = 2 ∨ k = 8 then ⟨k, [], nbN v 65535, []⟩
  else if k = 3 ∨ k = 5 ∨ k = 9 then ⟨k, [], 0, []⟩
  else if k = 10 then ⟨10, [], 0, (netR v).1⟩
  else if k = 6 ∧ v = zs64 then ⟨6, [], 0, []⟩ else ⟨k, v, 0, []⟩
theorem readS_is {l : LnP} {k : Int} (h : kindOf l.1 10 = k) (hk : k ≠ 0) : readS l = if (lineS (rdk k l.2)).2 = 0 ∧ (lineS (rdk k l.2)).1 = l then (rdk k l.2, 0) else (set0, 3) := by
  have e : rd0 l = rdk k l.2 := by unfold rd0 rdk; rw [h]; rfl
  unfold readS
  rw [h, if_neg hk, e]
theorem readS_0 {l : LnP} (h : kindOf l.1 10 = 0) : readS l = (set0, 2) := by
  unfold readS; rw [h]; rfl
theorem nbN_rg (v : List UInt8) : 0 ≤ nbN v 65535 ∧ nbN v 65535 ≤ 65535 := by
  unfold nbN
  split
  · rename_i h
    obtain ⟨a, b, c⟩ := sm_ok h
    omega
  · omega
theorem form_rd {k : Int} {v : List UInt8} (hv : v.length ≤ 1100000) (h1 : 1 ≤ k) (h2 : k ≤ 10) : formS (rdk k v) := by
  unfold rdk
  by_cases a : k = 2 ∨ k = 8
  · rw [if_pos a]
    exact ⟨h1, h2, fun _ => rfl, fun h => Bool.noConfusion ((isN_iff.2 a).symm.trans h), fun _ => rfl, by simp, fun _ => nbN_rg v, by simp⟩
  rw [if_neg a]
  have hN : isN k = false := isN_no (by omega) (by omega)
  by_cases b : k = 3 ∨ k = 5 ∨ k = 9
  · rw [if_pos b]
    exact ⟨h1, h2, fun _ => rfl, fun _ => rfl, fun _ => rfl, by simp, fun h => Bool.noConfusion (hN.symm.trans h), by simp⟩
  rw [if_neg b]
  by_cases c : k = 10
  · rw [if_pos c]
    exact ⟨by show (1 : Int) ≤ 10; omega, by show (10 : Int) ≤ 10; omega, fun _ => rfl, fun _ => rfl, fun h => absurd rfl h, by simp, fun h => Bool.noConfusion ((show isN 10 = false by decide).symm.trans h), netR_len v⟩
  rw [if_neg c]
  by_cases d : k = 6 ∧ v = zs64
  · rw [if_pos d]
    exact ⟨by show (1 : Int) ≤ 6; omega, by show (6 : Int) ≤ 10; omega, fun _ => rfl, fun _ => rfl, fun _ => rfl, by simp, fun h => Bool.noConfusion ((show isN 6 = false by decide).symm.trans h), by simp⟩
  rw [if_neg d]
  exact ⟨h1, h2, fun h => Bool.noConfusion ((isT_iff.2 (show k = 1 ∨ k = 4 ∨ k = 6 ∨ k = 7 by omega)).symm.trans h), fun _ => rfl, fun _ => rfl, hv, fun h => Bool.noConfusion (hN.symm.trans h), by simp⟩
theorem rd6_T {v : List UInt8} (h : v = zs64) : rdk 6 v = ⟨6, [], 0, []⟩ := by
  show (if (6 : Int) = 6 ∧ v = zs64 then (⟨6, [], 0, []⟩ : SetS) else ⟨6, v, 0, []⟩) = _
  exact if_pos (And.intro rfl h)
theorem rd6_F {v : List UInt8} (h : ¬ v = zs64) : rdk 6 v = ⟨6, v, 0, []⟩ := by
  show (if (6 : Int) = 6 ∧ v = zs64 then (⟨6, [], 0, []⟩ : SetS) else ⟨6, v, 0, []⟩) = _
  exact if_neg (fun k : (6 : Int) = 6 ∧ v = zs64 => h k.2)
set_option maxRecDepth 100000 in
set_option maxHeartbeats 4000000 in
theorem cf_bRead {l : LnP} (hl : l.2.length ≤ 1100000) : Cf Tryd.prog 13 [] [lnE l] [] (.tup [setE (readS l).1, .i (readS l).2]) := by
  refine Cf.introR tabT {} (DR _ _ _ tabT {}) (by kernel_rfl) tab_ok Tryd.func13 Tryd.ntmps13 rfl rfl (DR_ok tab_ok (by kernel_rfl)) (by kernel_rfl) ?_
  refine ⟨_, _, _, _, cf_bwords, ?_⟩
  refine ⟨Nat × Int, fun x => ⟨[(1, .own 1001 0), (2, .own 1002 0), (3, .i 0), (4, .own 1004 0), (9, .az 11 (fun i => .s (wrd i))), (10, .i (x.1 : Int))], [(1001, .box [.s l.1, .s l.2] 55), (1002, .box [.i 0, .s [], .i 0, .u32 0, .i 0] 53), (1004, .box [.i x.2, .s [], .i 0, .u32 0, .i 0] 53)]⟩, fun x => x.1 ≤ 11 ∧ x.2 = kindOf l.1 (x.1 - 1), fun x => 11 - x.1, (0, 0), ⟨Nat.zero_le _, rfl⟩, ?_, fun x hx1 => ?_⟩
  · skip
    repeat (refine Ob.mk ?_ ?_; focus (first | (exact Eq.refl _) | (exact fun _ _ => Eq.refl _)))
    trivial
  refine ⟨fun h1 => ?_, fun h1 => ?_⟩
  · skip
    have c1 := h1
    (simp only [bsX] at c1)
    have hi : x.1 < 11 := by omega
    repeat (refine Ob.mk ?_ ?_; focus (first | omega | (exact fun hg => beq_t hg) | (exact fun hg => hg)))
    refine ⟨fun h2 => ?_, fun h2 => ?_⟩
    · skip
      have c2 := h2
      (simp only [bsX] at c2)
      have q : 0 < x.1 ∧ wrd x.1 = l.1 := by simpa using h2
      have hK : kindOf l.1 x.1 = (x.1 : Int) := kind_hit q.1 (by omega) q.2
      repeat (refine Ob.mk ?_ ?_; focus (omega))
      have ho : x.1 + 1 ≤ 11 ∧ kindOf l.1 x.1 = kindOf l.1 (x.1 + 1 - 1) := ⟨by omega, rfl⟩
      refine ⟨(x.1 + 1, kindOf l.1 x.1), (by assumption), (by (simp only [SrcE.len, Nat.zero_add, List.length_append, List.length_cons, List.length_nil]; omega)), ?_⟩
      repeat (refine Ob.mk ?_ ?_; (focus (first | (rw [hK]; done) | (exact Eq.refl _) | (exact fun _ _ => Eq.refl _))))
      trivial
    · skip
      have c2 := h2
      (simp only [bsX] at c2)
      have q : ¬ (0 < x.1 ∧ wrd x.1 = l.1) := by simpa using h2
      have hK : kindOf l.1 x.1 = x.2 := by rw [kind_miss q]; exact hx1.2.symm
      repeat (refine Ob.mk ?_ ?_; focus (omega))
      have ho : x.1 + 1 ≤ 11 ∧ kindOf l.1 x.1 = kindOf l.1 (x.1 + 1 - 1) := ⟨by omega, rfl⟩
      refine ⟨(x.1 + 1, kindOf l.1 x.1), (by assumption), (by (simp only [SrcE.len, Nat.zero_add, List.length_append, List.length_cons, List.length_nil]; omega)), ?_⟩
      repeat (refine Ob.mk ?_ ?_; (focus (first | (rw [hK]; done) | (exact Eq.refl _) | (exact fun _ _ => Eq.refl _))))
      trivial
  · skip
    have c1 := h1
    (simp only [bsX] at c1)
    obtain ⟨i, kd⟩ := x
    have hi : i = 11 := by (have : i ≤ 11 := hx1.1); (have q : ¬ ((i : Int) < 11) := by simpa using h1); omega
    subst hi
    have hk2 : kindOf l.1 10 = kd := hx1.2.symm
    have hr := kind_range l.1 10
    rw [hk2] at hr
    rcases int11 hr.1 hr.2 with rfl | rfl | rfl | rfl | rfl | rfl | rfl | rfl | rfl | rfl | rfl
    · skip
      refine knT ?_
      have hR := readS_0 hk2
      repeat (refine Ob.mk ?_ ?_; (focus (first | (rw [hR]; done) | (rw [hR]; exact Eq.refl _))))
      trivial
    · skip
      refine knF ?_
      have hL := cf_bLine (s := rdk 1 l.2) (form_rd hl (by decide) (by decide))
      have hS := readS_is hk2 (by decide)
      refine knF ?_
      refine knF ?_
      refine knF ?_
      refine knF ?_
      refine knF ?_
      refine knF ?_
      refine ⟨[0, 1, 3, 7, 15, 31, 15, 127, 255], by kernel_rfl, ?_⟩
      repeat (refine Ob.mk ?_ ?_; focus ((exact fun hg => beq_t hg)))
      refine gx2 (cf_zs) (fun hk => ⟨fun _ => hk, ?_⟩)
      repeat (refine Ob.mk ?_ ?_; (focus (first | (intro _; exact Eq.refl _) | (exact fun hg => beq_t hg))))
      refine ⟨fun h10 => ?_, fun h10 => ?_⟩
      · skip
        (simp only [Int.reduceToNat, UInt8.reduceOfNat] at h10)
        have c10 := h10
        (simp only [bsX] at c10)
        exact absurd (show false = true from h10) (by decide)
      · skip
        (simp only [Int.reduceToNat, UInt8.reduceOfNat] at h10)
        have c10 := h10
        (simp only [bsX] at c10)
        try (have hz : ¬ l.2 = zs64 := by simpa using h10)
        try rw [rd6_F hz] at hL hS
        refine ⟨_, _, _, _, hL, ?_⟩
        repeat (refine Ob.mk ?_ ?_; focus (first | (exact Eq.refl _) | (exact fun hg => beq_f hg) | (exact fun hg => hg)))
        refine ⟨fun h11 => ?_, fun h11 => ?_⟩
        · skip
          have c11 := h11
          (simp only [bsX] at c11)
          have hR := hS.trans (if_neg (by intro ⟨q1, q2⟩; have q := h11; rw [q1] at q; rw [q2] at q; simp at q))
          repeat (refine Ob.mk ?_ ?_; (focus (first | (rw [hR]; done) | (rw [hR]; exact Eq.refl _))))
          trivial
        · skip
          have c11 := h11
          (simp only [bsX] at c11)
          have hR := hS.trans (if_pos (by have q := h11; simp at q; exact ⟨q.1, Prod.ext q.2.1 q.2.2⟩))
          repeat (refine Ob.mk ?_ ?_; (focus (first | (rw [hR]; done) | (rw [hR]; exact Eq.refl _))))
          trivial
    · skip
      refine knF ?_
      have hL := cf_bLine (s := rdk 2 l.2) (form_rd hl (by decide) (by decide))
      have hS := readS_is hk2 (by decide)
      refine knT ?_
      refine knT ?_
      refine ⟨[0, 1, 0, 4, 12, 31, 63, 127, 127, 255, 767], by kernel_rfl, ?_⟩
      refine ⟨_, _, _, _, (cf_most (k := 2) (m := 65535) (by decide)), ?_⟩
      repeat (refine Ob.mk ?_ ?_; focus ((exact Eq.refl _)))
      refine ⟨_, _, _, _, (cf_Number (s := l.2) (most := 65535) hl), ?_⟩
      repeat (refine Ob.mk ?_ ?_; focus ((exact Eq.refl _)))
      refine ⟨_, _, _, _, hL, ?_⟩
      repeat (refine Ob.mk ?_ ?_; focus (first | (exact Eq.refl _) | (exact fun hg => beq_f hg) | (exact fun hg => hg)))
      refine ⟨fun h6 => ?_, fun h6 => ?_⟩
      · skip
        have c6 := h6
        (simp only [bsX] at c6)
        have hR := hS.trans (if_neg (by intro ⟨q1, q2⟩; have q := h6; rw [q1] at q; rw [q2] at q; simp at q))
        repeat (refine Ob.mk ?_ ?_; (focus (first | (rw [hR]; done) | (rw [hR]; exact Eq.refl _))))
        trivial
      · skip
        have c6 := h6
        (simp only [bsX] at c6)
        have hR := hS.trans (if_pos (by have q := h6; simp at q; exact ⟨q.1, Prod.ext q.2.1 q.2.2⟩))
        repeat (refine Ob.mk ?_ ?_; (focus (first | (rw [hR]; done) | (rw [hR]; exact Eq.refl _))))
        trivial
    · skip
      refine knF ?_
      have hL := cf_bLine (s := rdk 3 l.2) (form_rd hl (by decide) (by decide))
      have hS := readS_is hk2 (by decide)
      refine knF ?_
      refine knF ?_
      refine knT ?_
      refine knT ?_
      refine ⟨_, _, _, _, hL, ?_⟩
      repeat (refine Ob.mk ?_ ?_; (focus (first | (exact Eq.refl _) | (intro _; exact Eq.refl _))))
      refine ⟨fun h8 => ?_, fun h8 => ?_⟩
      · skip
        have c8 := h8
        (simp only [bsX] at c8)
        have hR := hS.trans (if_neg (by intro ⟨q1, q2⟩; have q := h8; rw [q1] at q; rw [q2] at q; simp at q))
        repeat (refine Ob.mk ?_ ?_; (focus (first | (rw [hR]; done) | (rw [hR]; exact Eq.refl _))))
        trivial
      · skip
        have c8 := h8
        (simp only [bsX] at c8)
        have hR := hS.trans (if_pos (by have q := h8; simp at q; exact ⟨q.1, Prod.ext q.2.1 q.2.2⟩))
        repeat (refine Ob.mk ?_ ?_; (focus (first | (rw [hR]; done) | (rw [hR]; exact Eq.refl _))))
        trivial
    · skip
      refine knF ?_
      have hL := cf_bLine (s := rdk 4 l.2) (form_rd hl (by decide) (by decide))
      have hS := readS_is hk2 (by decide)
      refine knF ?_
      refine knF ?_
      refine knF ?_
      refine knF ?_
      refine knF ?_
      refine knF ?_
      refine ⟨[0, 1, 3, 7, 15, 31, 15, 127, 255], by kernel_rfl, ?_⟩
      repeat (refine Ob.mk ?_ ?_; focus ((exact fun hg => beq_t hg)))
      refine gx2 (cf_zs) (fun hk => ⟨fun _ => hk, ?_⟩)
      repeat (refine Ob.mk ?_ ?_; (focus (first | (intro _; exact Eq.refl _) | (exact fun hg => beq_t hg))))
      refine ⟨fun h10 => ?_, fun h10 => ?_⟩
      · skip
        (simp only [Int.reduceToNat, UInt8.reduceOfNat] at h10)
        have c10 := h10
        (simp only [bsX] at c10)
        exact absurd (show false = true from h10) (by decide)
      · skip
        (simp only [Int.reduceToNat, UInt8.reduceOfNat] at h10)
        have c10 := h10
        (simp only [bsX] at c10)
        try (have hz : ¬ l.2 = zs64 := by simpa using h10)
        try rw [rd6_F hz] at hL hS
        refine ⟨_, _, _, _, hL, ?_⟩
        repeat (refine Ob.mk ?_ ?_; focus (first | (exact Eq.refl _) | (exact fun hg => beq_f hg) | (exact fun hg => hg)))
        refine ⟨fun h11 => ?_, fun h11 => ?_⟩
        · skip
          have c11 := h11
          (simp only [bsX] at c11)
          have hR := hS.trans (if_neg (by intro ⟨q1, q2⟩; have q := h11; rw [q1] at q; rw [q2] at q; simp at q))
          repeat (refine Ob.mk ?_ ?_; (focus (first | (rw [hR]; done) | (rw [hR]; exact Eq.refl _))))
          trivial
        · skip
          have c11 := h11
          (simp only [bsX] at c11)
          have hR := hS.trans (if_pos (by have q := h11; simp at q; exact ⟨q.1, Prod.ext q.2.1 q.2.2⟩))
          repeat (refine Ob.mk ?_ ?_; (focus (first | (rw [hR]; done) | (rw [hR]; exact Eq.refl _))))
          trivial
    · skip
      refine knF ?_
      have hL := cf_bLine (s := rdk 5 l.2) (form_rd hl (by decide) (by decide))
      have hS := readS_is hk2 (by decide)
      refine knF ?_
      refine knF ?_
      refine knF ?_
      refine knT ?_
      refine knT ?_
      refine ⟨_, _, _, _, hL, ?_⟩
      repeat (refine Ob.mk ?_ ?_; (focus (first | (exact Eq.refl _) | (intro _; exact Eq.refl _))))
      refine ⟨fun h9 => ?_, fun h9 => ?_⟩
      · skip
        have c9 := h9
        (simp only [bsX] at c9)
        have hR := hS.trans (if_neg (by intro ⟨q1, q2⟩; have q := h9; rw [q1] at q; rw [q2] at q; simp at q))
        repeat (refine Ob.mk ?_ ?_; (focus (first | (rw [hR]; done) | (rw [hR]; exact Eq.refl _))))
        trivial
      · skip
        have c9 := h9
        (simp only [bsX] at c9)
        have hR := hS.trans (if_pos (by have q := h9; simp at q; exact ⟨q.1, Prod.ext q.2.1 q.2.2⟩))
        repeat (refine Ob.mk ?_ ?_; (focus (first | (rw [hR]; done) | (rw [hR]; exact Eq.refl _))))
        trivial
    · skip
      refine knF ?_
      have hL := cf_bLine (s := rdk 6 l.2) (form_rd hl (by decide) (by decide))
      have hS := readS_is hk2 (by decide)
      refine knF ?_
      refine knF ?_
      refine knF ?_
      refine knF ?_
      refine knF ?_
      refine knF ?_
      refine ⟨[0, 1, 3, 7, 15, 31, 15, 127, 255], by kernel_rfl, ?_⟩
      repeat (refine Ob.mk ?_ ?_; (focus (((intro _; exact Eq.refl _)))))
      refine gx2 (cf_zs) (fun hk => ⟨fun _ => hk, ?_⟩)
      repeat (refine Ob.mk ?_ ?_; (focus (((intro _; exact Eq.refl _)))))
      refine ⟨fun h10 => ?_, fun h10 => ?_⟩
      · skip
        (simp only [Int.reduceToNat, UInt8.reduceOfNat] at h10)
        have c10 := h10
        (simp only [bsX] at c10)
        have hz : l.2 = zs64 := by simpa using h10
        rw [rd6_T hz] at hL hS
        refine ⟨_, _, _, _, hL, ?_⟩
        repeat (refine Ob.mk ?_ ?_; (focus (first | (exact Eq.refl _) | (intro _; exact Eq.refl _))))
        refine ⟨fun h11 => ?_, fun h11 => ?_⟩
        · skip
          have c11 := h11
          (simp only [bsX] at c11)
          have hR := hS.trans (if_neg (by intro ⟨q1, q2⟩; have q := h11; rw [q1] at q; rw [q2] at q; simp at q))
          repeat (refine Ob.mk ?_ ?_; (focus (first | (rw [hR]; done) | (rw [hR]; exact Eq.refl _))))
          trivial
        · skip
          have c11 := h11
          (simp only [bsX] at c11)
          have hR := hS.trans (if_pos (by have q := h11; simp at q; exact ⟨q.1, Prod.ext q.2.1 q.2.2⟩))
          repeat (refine Ob.mk ?_ ?_; (focus (first | (rw [hR]; done) | (rw [hR]; exact Eq.refl _))))
          trivial
      · skip
        (simp only [Int.reduceToNat, UInt8.reduceOfNat] at h10)
        have c10 := h10
        (simp only [bsX] at c10)
        try (have hz : ¬ l.2 = zs64 := by simpa using h10)
        try rw [rd6_F hz] at hL hS
        refine ⟨_, _, _, _, hL, ?_⟩
        repeat (refine Ob.mk ?_ ?_; focus (first | (exact Eq.refl _) | (exact fun hg => beq_f hg) | (exact fun hg => hg)))
        refine ⟨fun h12 => ?_, fun h12 => ?_⟩
        · skip
          have c12 := h12
          (simp only [bsX] at c12)
          have hR := hS.trans (if_neg (by intro ⟨q1, q2⟩; have q := h12; rw [q1] at q; rw [q2] at q; simp at q))
          repeat (refine Ob.mk ?_ ?_; (focus (first | (rw [hR]; done) | (rw [hR]; exact Eq.refl _))))
          trivial
        · skip
          have c12 := h12
          (simp only [bsX] at c12)
          have hR := hS.trans (if_pos (by have q := h12; simp at q; exact ⟨q.1, Prod.ext q.2.1 q.2.2⟩))
          repeat (refine Ob.mk ?_ ?_; (focus (first | (rw [hR]; done) | (rw [hR]; exact Eq.refl _))))
          trivial
    · skip
      refine knF ?_
      have hL := cf_bLine (s := rdk 7 l.2) (form_rd hl (by decide) (by decide))
      have hS := readS_is hk2 (by decide)
      refine knF ?_
      refine knF ?_
      refine knF ?_
      refine knF ?_
      refine knF ?_
      refine knF ?_
      refine ⟨[0, 1, 3, 7, 15, 31, 15, 127, 255], by kernel_rfl, ?_⟩
      repeat (refine Ob.mk ?_ ?_; focus ((exact fun hg => beq_t hg)))
      refine gx2 (cf_zs) (fun hk => ⟨fun _ => hk, ?_⟩)
      repeat (refine Ob.mk ?_ ?_; (focus (first | (intro _; exact Eq.refl _) | (exact fun hg => beq_t hg))))
      refine ⟨fun h10 => ?_, fun h10 => ?_⟩
      · skip
        (simp only [Int.reduceToNat, UInt8.reduceOfNat] at h10)
        have c10 := h10
        (simp only [bsX] at c10)
        exact absurd (show false = true from h10) (by decide)
      · skip
        (simp only [Int.reduceToNat, UInt8.reduceOfNat] at h10)
        have c10 := h10
        (simp only [bsX] at c10)
        try (have hz : ¬ l.2 = zs64 := by simpa using h10)
        try rw [rd6_F hz] at hL hS
        refine ⟨_, _, _, _, hL, ?_⟩
        repeat (refine Ob.mk ?_ ?_; focus (first | (exact Eq.refl _) | (exact fun hg => beq_f hg) | (exact fun hg => hg)))
        refine ⟨fun h11 => ?_, fun h11 => ?_⟩
        · skip
          have c11 := h11
          (simp only [bsX] at c11)
          have hR := hS.trans (if_neg (by intro ⟨q1, q2⟩; have q := h11; rw [q1] at q; rw [q2] at q; simp at q))
          repeat (refine Ob.mk ?_ ?_; (focus (first | (rw [hR]; done) | (rw [hR]; exact Eq.refl _))))
          trivial
        · skip
          have c11 := h11
          (simp only [bsX] at c11)
          have hR := hS.trans (if_pos (by have q := h11; simp at q; exact ⟨q.1, Prod.ext q.2.1 q.2.2⟩))
          repeat (refine Ob.mk ?_ ?_; (focus (first | (rw [hR]; done) | (rw [hR]; exact Eq.refl _))))
          trivial
    · skip
      refine knF ?_
      have hL := cf_bLine (s := rdk 8 l.2) (form_rd hl (by decide) (by decide))
      have hS := readS_is hk2 (by decide)
      refine knF ?_
      refine knT ?_
      refine ⟨[0, 1, 0, 4, 12, 31, 63, 127, 127, 255, 767], by kernel_rfl, ?_⟩
      refine ⟨_, _, _, _, (cf_most (k := 8) (m := 65535) (by decide)), ?_⟩
      repeat (refine Ob.mk ?_ ?_; focus ((exact Eq.refl _)))
      refine ⟨_, _, _, _, (cf_Number (s := l.2) (most := 65535) hl), ?_⟩
      repeat (refine Ob.mk ?_ ?_; focus ((exact Eq.refl _)))
      refine ⟨_, _, _, _, hL, ?_⟩
      repeat (refine Ob.mk ?_ ?_; focus (first | (exact Eq.refl _) | (exact fun hg => beq_f hg) | (exact fun hg => hg)))
      refine ⟨fun h6 => ?_, fun h6 => ?_⟩
      · skip
        have c6 := h6
        (simp only [bsX] at c6)
        have hR := hS.trans (if_neg (by intro ⟨q1, q2⟩; have q := h6; rw [q1] at q; rw [q2] at q; simp at q))
        repeat (refine Ob.mk ?_ ?_; (focus (first | (rw [hR]; done) | (rw [hR]; exact Eq.refl _))))
        trivial
      · skip
        have c6 := h6
        (simp only [bsX] at c6)
        have hR := hS.trans (if_pos (by have q := h6; simp at q; exact ⟨q.1, Prod.ext q.2.1 q.2.2⟩))
        repeat (refine Ob.mk ?_ ?_; (focus (first | (rw [hR]; done) | (rw [hR]; exact Eq.refl _))))
        trivial
    · skip
      refine knF ?_
      have hL := cf_bLine (s := rdk 9 l.2) (form_rd hl (by decide) (by decide))
      have hS := readS_is hk2 (by decide)
      refine knF ?_
      refine knF ?_
      refine knF ?_
      refine knF ?_
      refine knT ?_
      refine ⟨_, _, _, _, hL, ?_⟩
      repeat (refine Ob.mk ?_ ?_; (focus (first | (exact Eq.refl _) | (intro _; exact Eq.refl _))))
      refine ⟨fun h9 => ?_, fun h9 => ?_⟩
      · skip
        have c9 := h9
        (simp only [bsX] at c9)
        have hR := hS.trans (if_neg (by intro ⟨q1, q2⟩; have q := h9; rw [q1] at q; rw [q2] at q; simp at q))
        repeat (refine Ob.mk ?_ ?_; (focus (first | (rw [hR]; done) | (rw [hR]; exact Eq.refl _))))
        trivial
      · skip
        have c9 := h9
        (simp only [bsX] at c9)
        have hR := hS.trans (if_pos (by have q := h9; simp at q; exact ⟨q.1, Prod.ext q.2.1 q.2.2⟩))
        repeat (refine Ob.mk ?_ ?_; (focus (first | (rw [hR]; done) | (rw [hR]; exact Eq.refl _))))
        trivial
    · skip
      refine knF ?_
      have hL := cf_bLine (s := rdk 10 l.2) (form_rd hl (by decide) (by decide))
      have hS := readS_is hk2 (by decide)
      refine knF ?_
      refine knF ?_
      refine knF ?_
      refine knF ?_
      refine knF ?_
      refine knT ?_
      refine ⟨_, _, _, _, (cf_netParse (s := l.2) hl), ?_⟩
      repeat (refine Ob.mk ?_ ?_; focus ((exact Eq.refl _)))
      refine ⟨_, _, _, _, hL, ?_⟩
      repeat (refine Ob.mk ?_ ?_; (focus (first | (exact Eq.refl _) | (intro _; exact Eq.refl _))))
      refine ⟨fun h10 => ?_, fun h10 => ?_⟩
      · skip
        have c10 := h10
        (simp only [bsX] at c10)
        have hR := hS.trans (if_neg (by intro ⟨q1, q2⟩; have q := h10; rw [q1] at q; rw [q2] at q; simp at q))
        repeat (refine Ob.mk ?_ ?_; (focus (first | (rw [hR]; done) | (rw [hR]; exact Eq.refl _))))
        trivial
      · skip
        have c10 := h10
        (simp only [bsX] at c10)
        have hR := hS.trans (if_pos (by have q := h10; simp at q; exact ⟨q.1, Prod.ext q.2.1 q.2.2⟩))
        repeat (refine Ob.mk ?_ ?_; (focus (first | (rw [hR]; done) | (rw [hR]; exact Eq.refl _))))
        trivial
end Go.Proofs.YtcebndkiagbddaaDoor
