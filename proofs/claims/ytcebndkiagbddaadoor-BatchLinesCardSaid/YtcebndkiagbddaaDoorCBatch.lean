/- package batch: contracts. -/
import Derived.Test.YtcebndkiagbddaaDoorCAddr
import Derived.Test.YtcebndkiagbddaaDoorCKey
namespace Go.Proofs.YtcebndkiagbddaaDoor
open Go.RowKit Go.Lib
set_option linter.unusedVariables false
set_option linter.unusedSimpArgs false

abbrev setE (s : SetS) : EV := .agg [.i s.k, .s s.t, .i s.n, .u32 (adr s.p), .i (s.p.length : Int)]
/-- A setting of a good form. -/
def formS (s : SetS) : Prop := 1 ≤ s.k ∧ s.k ≤ 10 ∧ (isT s.k = false → s.t = []) ∧ (isN s.k = false → s.n = 0) ∧ (s.k ≠ 10 → s.p = []) ∧ s.t.length ≤ 1100000 ∧ (isN s.k = true → 0 ≤ s.n ∧ s.n ≤ 65535) ∧ s.p.length ≤ 32
def mst (k : Int) : Int := if k = 2 ∨ k = 8 then 65535 else -1
set_option maxRecDepth 100000 in
set_option maxHeartbeats 4000000 in
theorem cf_mostO {k : Int} : Cf Tryd.prog 29 [] [.i k] [] (.i (mst k)) := by
  refine Cf.introR tabT {} D0 (by kernel_rfl) tab_ok Tryd.func29 Tryd.ntmps29 rfl rfl (D0_ok) (by kernel_rfl) ?_
  refine ⟨fun h1 => ?_, fun h1 => ?_⟩
  · skip
    have c1 := h1
    (simp only [bsX] at c1)
    repeat (refine Ob.mk ?_ ?_; (focus (((unfold mst; simp_all; done)))))
    trivial
  · skip
    have c1 := h1
    (simp only [bsX] at c1)
    refine ⟨fun h2 => ?_, fun h2 => ?_⟩
    · skip
      have c2 := h2
      (simp only [bsX] at c2)
      repeat (refine Ob.mk ?_ ?_; (focus (((unfold mst; simp_all; done)))))
      trivial
    · skip
      have c2 := h2
      (simp only [bsX] at c2)
      repeat (refine Ob.mk ?_ ?_; (focus (((unfold mst; simp_all; done)))))
      trivial
theorem cf_most {k m : Int} (h : mst k = m) : Cf Tryd.prog 29 [] [.i k] [] (.i m) := h ▸ cf_mostO
theorem zs_rep : Lib.repeatL ([48] : List UInt8) 64 = zs64 := by decide
theorem cf_zs : Cf Tryd.prog 18 [] [.s [48], .i 64] [] (.s zs64) := by
  have := cf_Repeat (l := [48]) (c := 64) (by decide) (by decide)
  rw [zs_rep] at this; exact this
set_option maxRecDepth 100000 in
set_option maxHeartbeats 4000000 in
theorem cf_bwords  : Cf Tryd.prog 26 [] [] [] (.az 11 (fun i => .s (wrd i))) := by
  refine Cf.introR tabT {} D0 (by kernel_rfl) tab_ok Tryd.func26 Tryd.ntmps26 rfl rfl (D0_ok) (by kernel_rfl) ?_
  repeat (refine Ob.mk ?_ ?_; focus ((exact Eq.refl _)))
  trivial
theorem pcheck_p {p : List Bool} (hp : p.length ≤ 32) : pcheck (adr p).toNat (p.length : Int) = 0 := by
  have := adr_valid hp
  exact pcheck_zero.2 this

set_option maxRecDepth 100000 in
set_option maxHeartbeats 4000000 in
theorem cf_Check1O {t : List UInt8} (ht : t.length ≤ 1100000) : Cf Tryd.prog 25 [] [.agg [.i 1, .s t, .i 0, .u32 0, .i 0]] [] (.i (hexC t)) := by
  refine Cf.introR tabT {} (DR _ _ _ tabT {}) (by kernel_rfl) tab_ok Tryd.func25 Tryd.ntmps25 rfl rfl (DR_ok tab_ok (by kernel_rfl)) (by kernel_rfl) ?_
  repeat (refine Ob.mk ?_ ?_; (focus (((intro _; exact Eq.refl _)))))
  refine knF ?_
  refine ⟨[0, 1, 3, 7, 0, 16, 48, 7, 143, 511], by kernel_rfl, ?_⟩
  refine ⟨_, _, _, _, (cf_most (k := 1) (m := -1) (by decide)), ?_⟩
  repeat (refine Ob.mk ?_ ?_; focus ((exact Eq.refl _)))
  refine knT ?_
  refine knT ?_
  repeat (refine Ob.mk ?_ ?_; (focus (first | (intro _; exact Eq.refl _) | (exact fun _ _ => Eq.refl _) | (exact fun hg => beq_t hg))))
  refine knF ?_
  refine knT ?_
  refine knT ?_
  refine ⟨_, _, _, _, (cf_hexCheck (l := t)), ?_⟩
  repeat (refine Ob.mk ?_ ?_; focus ((exact Eq.refl _)))
  trivial
set_option maxRecDepth 100000 in
set_option maxHeartbeats 4000000 in
theorem cf_Check2O {n : Int} (h0 : 0 ≤ n) (h1 : n ≤ 65535) : Cf Tryd.prog 25 [] [.agg [.i 2, .s [], .i n, .u32 0, .i 0]] [] (.i (0)) := by
  refine Cf.introR tabT {} (DR _ _ _ tabT {}) (by kernel_rfl) tab_ok Tryd.func25 Tryd.ntmps25 rfl rfl (DR_ok tab_ok (by kernel_rfl)) (by kernel_rfl) ?_
  repeat (refine Ob.mk ?_ ?_; (focus (((intro _; exact Eq.refl _)))))
  refine knF ?_
  refine ⟨[0, 1, 3, 7, 0, 16, 48, 7, 143, 511], by kernel_rfl, ?_⟩
  refine ⟨_, _, _, _, (cf_most (k := 2) (m := 65535) (by decide)), ?_⟩
  repeat (refine Ob.mk ?_ ?_; focus ((exact Eq.refl _)))
  refine knF ?_
  refine knF ?_
  refine knF ?_
  refine knF ?_
  repeat (refine Ob.mk ?_ ?_; (focus (first | (intro _; exact Eq.refl _) | (exact fun _ _ => Eq.refl _) | (exact fun hg => beq_t hg) | (intro hg; ((intro hq; assumption))))))
  refine knF ?_
  refine knF ?_
  refine knF ?_
  refine knF ?_
  refine knF ?_
  refine knF ?_
  refine ⟨[0, 1, 3, 7, 15, 31, 63, 127, 63, 319, 831, 2047, 4095, 8191], by kernel_rfl, ?_⟩
  repeat (refine Ob.mk ?_ ?_; (focus (first | (intro _; exact Eq.refl _) | (exact fun hg => hg))))
  refine gx2 (cf_most (k := 2) (m := 65535) (by decide)) (fun hk => ⟨fun _ => hk, ?_⟩)
  repeat (refine Ob.mk ?_ ?_; (focus (first | (intro _; exact Eq.refl _) | (exact fun hg => hg) | (intro hg; ((intro hq; exact and_i hg (beq_f hq)))))))
  refine ⟨fun h12 => ?_, fun h12 => ?_⟩
  · skip
    have c12 := h12
    (simp only [bsX] at c12)
    exfalso; have q := h12; simp at q; omega
  · skip
    have c12 := h12
    (simp only [bsX] at c12)
    repeat (refine Ob.mk ?_ ?_; focus ((exact Eq.refl _)))
    trivial
set_option maxRecDepth 100000 in
set_option maxHeartbeats 4000000 in
theorem cf_Check3O  : Cf Tryd.prog 25 [] [.agg [.i 3, .s [], .i 0, .u32 0, .i 0]] [] (.i (0)) := by
  refine Cf.introR tabT {} (DR _ _ _ tabT {}) (by kernel_rfl) tab_ok Tryd.func25 Tryd.ntmps25 rfl rfl (DR_ok tab_ok (by kernel_rfl)) (by kernel_rfl) ?_
  repeat (refine Ob.mk ?_ ?_; (focus (((intro _; exact Eq.refl _)))))
  refine knF ?_
  refine ⟨[0, 1, 3, 7, 0, 16, 48, 7, 143, 511], by kernel_rfl, ?_⟩
  refine ⟨_, _, _, _, (cf_most (k := 3) (m := -1) (by decide)), ?_⟩
  repeat (refine Ob.mk ?_ ?_; focus ((exact Eq.refl _)))
  refine knF ?_
  refine knF ?_
  refine knF ?_
  refine knF ?_
  repeat (refine Ob.mk ?_ ?_; (focus (first | (intro _; exact Eq.refl _) | (exact fun _ _ => Eq.refl _))))
  refine knF ?_
  refine knF ?_
  refine knF ?_
  refine knF ?_
  refine knF ?_
  refine knF ?_
  refine ⟨[0, 1, 3, 7, 15, 31, 63, 127, 63, 319, 831, 2047, 4095, 8191], by kernel_rfl, ?_⟩
  repeat (refine Ob.mk ?_ ?_; focus ((exact fun hg => beq_t hg)))
  refine gx2 (cf_most (k := 3) (m := -1) (by decide)) (fun hk => ⟨fun _ => hk, ?_⟩)
  repeat (refine Ob.mk ?_ ?_; (focus (first | (intro _; exact Eq.refl _) | (exact fun hg => beq_t hg) | (intro hg; ((intro hq; assumption))))))
  refine knF ?_
  repeat (refine Ob.mk ?_ ?_; focus ((exact Eq.refl _)))
  trivial
set_option maxRecDepth 100000 in
set_option maxHeartbeats 4000000 in
theorem cf_Check4O {t : List UInt8} (ht : t.length ≤ 1100000) : Cf Tryd.prog 25 [] [.agg [.i 4, .s t, .i 0, .u32 0, .i 0]] [] (.i (hexC t)) := by
  refine Cf.introR tabT {} (DR _ _ _ tabT {}) (by kernel_rfl) tab_ok Tryd.func25 Tryd.ntmps25 rfl rfl (DR_ok tab_ok (by kernel_rfl)) (by kernel_rfl) ?_
  repeat (refine Ob.mk ?_ ?_; (focus (((intro _; exact Eq.refl _)))))
  refine knF ?_
  refine ⟨[0, 1, 3, 7, 0, 16, 48, 7, 143, 511], by kernel_rfl, ?_⟩
  refine ⟨_, _, _, _, (cf_most (k := 4) (m := -1) (by decide)), ?_⟩
  repeat (refine Ob.mk ?_ ?_; focus ((exact Eq.refl _)))
  refine knF ?_
  refine knT ?_
  refine knT ?_
  repeat (refine Ob.mk ?_ ?_; (focus (first | (intro _; exact Eq.refl _) | (exact fun _ _ => Eq.refl _) | (exact fun hg => beq_t hg))))
  refine knF ?_
  refine knF ?_
  refine knT ?_
  refine ⟨_, _, _, _, (cf_hexCheck (l := t)), ?_⟩
  repeat (refine Ob.mk ?_ ?_; focus ((exact Eq.refl _)))
  trivial
set_option maxRecDepth 100000 in
set_option maxHeartbeats 4000000 in
theorem cf_Check5O  : Cf Tryd.prog 25 [] [.agg [.i 5, .s [], .i 0, .u32 0, .i 0]] [] (.i (0)) := by
  refine Cf.introR tabT {} (DR _ _ _ tabT {}) (by kernel_rfl) tab_ok Tryd.func25 Tryd.ntmps25 rfl rfl (DR_ok tab_ok (by kernel_rfl)) (by kernel_rfl) ?_
  repeat (refine Ob.mk ?_ ?_; (focus (((intro _; exact Eq.refl _)))))
  refine knF ?_
  refine ⟨[0, 1, 3, 7, 0, 16, 48, 7, 143, 511], by kernel_rfl, ?_⟩
  refine ⟨_, _, _, _, (cf_most (k := 5) (m := -1) (by decide)), ?_⟩
  repeat (refine Ob.mk ?_ ?_; focus ((exact Eq.refl _)))
  refine knF ?_
  refine knF ?_
  refine knF ?_
  refine knF ?_
  repeat (refine Ob.mk ?_ ?_; (focus (first | (intro _; exact Eq.refl _) | (exact fun _ _ => Eq.refl _))))
  refine knF ?_
  refine knF ?_
  refine knF ?_
  refine knF ?_
  refine knF ?_
  refine knF ?_
  refine ⟨[0, 1, 3, 7, 15, 31, 63, 127, 63, 319, 831, 2047, 4095, 8191], by kernel_rfl, ?_⟩
  repeat (refine Ob.mk ?_ ?_; focus ((exact fun hg => beq_t hg)))
  refine gx2 (cf_most (k := 5) (m := -1) (by decide)) (fun hk => ⟨fun _ => hk, ?_⟩)
  repeat (refine Ob.mk ?_ ?_; (focus (first | (intro _; exact Eq.refl _) | (exact fun hg => beq_t hg) | (intro hg; ((intro hq; assumption))))))
  refine knF ?_
  repeat (refine Ob.mk ?_ ?_; focus ((exact Eq.refl _)))
  trivial
set_option maxRecDepth 100000 in
set_option maxHeartbeats 4000000 in
theorem cf_Check6O {t : List UInt8} (ht : t.length ≤ 1100000) : Cf Tryd.prog 25 [] [.agg [.i 6, .s t, .i 0, .u32 0, .i 0]] [] (.i (if t = [] then 0 else if t = zs64 then 3 else hexC t)) := by
  refine Cf.introR tabT {} (DR _ _ _ tabT {}) (by kernel_rfl) tab_ok Tryd.func25 Tryd.ntmps25 rfl rfl (DR_ok tab_ok (by kernel_rfl)) (by kernel_rfl) ?_
  repeat (refine Ob.mk ?_ ?_; (focus (((intro _; exact Eq.refl _)))))
  refine knF ?_
  refine ⟨[0, 1, 3, 7, 0, 16, 48, 7, 143, 511], by kernel_rfl, ?_⟩
  refine ⟨_, _, _, _, (cf_most (k := 6) (m := -1) (by decide)), ?_⟩
  repeat (refine Ob.mk ?_ ?_; focus ((exact Eq.refl _)))
  refine knF ?_
  refine knF ?_
  refine knT ?_
  refine knT ?_
  repeat (refine Ob.mk ?_ ?_; (focus (first | (intro _; exact Eq.refl _) | (exact fun _ _ => Eq.refl _) | (exact fun hg => beq_t hg))))
  refine knF ?_
  refine knF ?_
  refine knF ?_
  refine knT ?_
  refine ⟨fun h10 => ?_, fun h10 => ?_⟩
  · skip
    have c10 := h10
    (simp only [bsX] at c10)
    have ht1 : t = [] := by simpa using h10
    repeat (refine Ob.mk ?_ ?_; (focus (((rw [if_pos ht1]; done)))))
    trivial
  · skip
    have c10 := h10
    (simp only [bsX] at c10)
    have ht1 : ¬ t = [] := by simpa using h10
    refine ⟨[0, 1, 0, 7], by kernel_rfl, ?_⟩
    refine ⟨_, _, _, _, cf_zs, ?_⟩
    repeat (refine Ob.mk ?_ ?_; focus ((exact Eq.refl _)))
    refine ⟨fun h11 => ?_, fun h11 => ?_⟩
    · skip
      have c11 := h11
      (simp only [bsX] at c11)
      have ht2 : t = zs64 := by simpa using h11
      repeat (refine Ob.mk ?_ ?_; (focus (((rw [if_neg ht1, if_pos ht2]; done)))))
      trivial
    · skip
      have c11 := h11
      (simp only [bsX] at c11)
      have ht2 : ¬ t = zs64 := by simpa using h11
      refine ⟨_, _, _, _, (cf_hexCheck (l := t)), ?_⟩
      repeat (refine Ob.mk ?_ ?_; (focus (first | (rw [if_neg ht1, if_neg ht2]; done) | (exact Eq.refl _))))
      trivial
set_option maxRecDepth 100000 in
set_option maxHeartbeats 4000000 in
theorem cf_Check7O {t : List UInt8} (ht : t.length ≤ 1100000) : Cf Tryd.prog 25 [] [.agg [.i 7, .s t, .i 0, .u32 0, .i 0]] [] (.i (endE t)) := by
  refine Cf.introR tabT {} (DR _ _ _ tabT {}) (by kernel_rfl) tab_ok Tryd.func25 Tryd.ntmps25 rfl rfl (DR_ok tab_ok (by kernel_rfl)) (by kernel_rfl) ?_
  repeat (refine Ob.mk ?_ ?_; (focus (((intro _; exact Eq.refl _)))))
  refine knF ?_
  refine ⟨[0, 1, 3, 7, 0, 16, 48, 7, 143, 511], by kernel_rfl, ?_⟩
  refine ⟨_, _, _, _, (cf_most (k := 7) (m := -1) (by decide)), ?_⟩
  repeat (refine Ob.mk ?_ ?_; focus ((exact Eq.refl _)))
  refine knF ?_
  refine knF ?_
  refine knF ?_
  refine knT ?_
  repeat (refine Ob.mk ?_ ?_; (focus (first | (intro _; exact Eq.refl _) | (exact fun _ _ => Eq.refl _) | (exact fun hg => beq_t hg))))
  refine knF ?_
  refine knF ?_
  refine knF ?_
  refine knF ?_
  refine knT ?_
  refine ⟨_, _, _, _, (cf_End (s := t) ht), ?_⟩
  repeat (refine Ob.mk ?_ ?_; focus ((exact Eq.refl _)))
  trivial
set_option maxRecDepth 100000 in
set_option maxHeartbeats 4000000 in
theorem cf_Check8O {n : Int} (h0 : 0 ≤ n) (h1 : n ≤ 65535) : Cf Tryd.prog 25 [] [.agg [.i 8, .s [], .i n, .u32 0, .i 0]] [] (.i (0)) := by
  refine Cf.introR tabT {} (DR _ _ _ tabT {}) (by kernel_rfl) tab_ok Tryd.func25 Tryd.ntmps25 rfl rfl (DR_ok tab_ok (by kernel_rfl)) (by kernel_rfl) ?_
  repeat (refine Ob.mk ?_ ?_; (focus (((intro _; exact Eq.refl _)))))
  refine knF ?_
  refine ⟨[0, 1, 3, 7, 0, 16, 48, 7, 143, 511], by kernel_rfl, ?_⟩
  refine ⟨_, _, _, _, (cf_most (k := 8) (m := 65535) (by decide)), ?_⟩
  repeat (refine Ob.mk ?_ ?_; focus ((exact Eq.refl _)))
  refine knF ?_
  refine knF ?_
  refine knF ?_
  refine knF ?_
  repeat (refine Ob.mk ?_ ?_; (focus (first | (intro _; exact Eq.refl _) | (exact fun _ _ => Eq.refl _) | (exact fun hg => beq_t hg) | (intro hg; ((intro hq; assumption))))))
  refine knF ?_
  refine knF ?_
  refine knF ?_
  refine knF ?_
  refine knF ?_
  refine knF ?_
  refine ⟨[0, 1, 3, 7, 15, 31, 63, 127, 63, 319, 831, 2047, 4095, 8191], by kernel_rfl, ?_⟩
  repeat (refine Ob.mk ?_ ?_; (focus (first | (intro _; exact Eq.refl _) | (exact fun hg => hg))))
  refine gx2 (cf_most (k := 8) (m := 65535) (by decide)) (fun hk => ⟨fun _ => hk, ?_⟩)
  repeat (refine Ob.mk ?_ ?_; (focus (first | (intro _; exact Eq.refl _) | (exact fun hg => hg) | (intro hg; ((intro hq; exact and_i hg (beq_f hq)))))))
  refine ⟨fun h12 => ?_, fun h12 => ?_⟩
  · skip
    have c12 := h12
    (simp only [bsX] at c12)
    exfalso; have q := h12; simp at q; omega
  · skip
    have c12 := h12
    (simp only [bsX] at c12)
    repeat (refine Ob.mk ?_ ?_; focus ((exact Eq.refl _)))
    trivial
set_option maxRecDepth 100000 in
set_option maxHeartbeats 4000000 in
theorem cf_Check9O  : Cf Tryd.prog 25 [] [.agg [.i 9, .s [], .i 0, .u32 0, .i 0]] [] (.i (0)) := by
  refine Cf.introR tabT {} (DR _ _ _ tabT {}) (by kernel_rfl) tab_ok Tryd.func25 Tryd.ntmps25 rfl rfl (DR_ok tab_ok (by kernel_rfl)) (by kernel_rfl) ?_
  repeat (refine Ob.mk ?_ ?_; (focus (((intro _; exact Eq.refl _)))))
  refine knF ?_
  refine ⟨[0, 1, 3, 7, 0, 16, 48, 7, 143, 511], by kernel_rfl, ?_⟩
  refine ⟨_, _, _, _, (cf_most (k := 9) (m := -1) (by decide)), ?_⟩
  repeat (refine Ob.mk ?_ ?_; focus ((exact Eq.refl _)))
  refine knF ?_
  refine knF ?_
  refine knF ?_
  refine knF ?_
  repeat (refine Ob.mk ?_ ?_; (focus (first | (intro _; exact Eq.refl _) | (exact fun _ _ => Eq.refl _))))
  refine knF ?_
  refine knF ?_
  refine knF ?_
  refine knF ?_
  refine knF ?_
  refine knF ?_
  refine ⟨[0, 1, 3, 7, 15, 31, 63, 127, 63, 319, 831, 2047, 4095, 8191], by kernel_rfl, ?_⟩
  repeat (refine Ob.mk ?_ ?_; focus ((exact fun hg => beq_t hg)))
  refine gx2 (cf_most (k := 9) (m := -1) (by decide)) (fun hk => ⟨fun _ => hk, ?_⟩)
  repeat (refine Ob.mk ?_ ?_; (focus (first | (intro _; exact Eq.refl _) | (exact fun hg => beq_t hg) | (intro hg; ((intro hq; assumption))))))
  refine knF ?_
  repeat (refine Ob.mk ?_ ?_; focus ((exact Eq.refl _)))
  trivial
set_option maxRecDepth 100000 in
set_option maxHeartbeats 4000000 in
theorem cf_Check10O {p : List Bool} (hp : p.length ≤ 32) : Cf Tryd.prog 25 [] [.agg [.i 10, .s [], .i 0, .u32 (adr p), .i (p.length : Int)]] [] (.i (0)) := by
  have hC := cf_nCheckA (a := adr p) (n := (p.length : Int))
  rw [pcheck_p hp] at hC
  refine Cf.introR tabT {} (DR _ _ _ tabT {}) (by kernel_rfl) tab_ok Tryd.func25 Tryd.ntmps25 rfl rfl (DR_ok tab_ok (by kernel_rfl)) (by kernel_rfl) ?_
  repeat (refine Ob.mk ?_ ?_; (focus (((intro _; exact Eq.refl _)))))
  refine knF ?_
  refine ⟨[0, 1, 3, 7, 0, 16, 48, 7, 143, 511], by kernel_rfl, ?_⟩
  refine ⟨_, _, _, _, (cf_most (k := 10) (m := -1) (by decide)), ?_⟩
  repeat (refine Ob.mk ?_ ?_; focus ((exact Eq.refl _)))
  refine knF ?_
  refine knF ?_
  refine knF ?_
  refine knF ?_
  repeat (refine Ob.mk ?_ ?_; (focus (first | (intro _; exact Eq.refl _) | (exact fun _ _ => Eq.refl _) | (exact fun hg => beq_t hg) | (intro hg; ((intro hq; assumption))))))
  refine knF ?_
  refine knF ?_
  refine knF ?_
  refine knF ?_
  refine knF ?_
  refine knT ?_
  refine ⟨_, _, _, _, hC, ?_⟩
  repeat (refine Ob.mk ?_ ?_; focus ((exact Eq.refl _)))
  trivial
set_option maxRecDepth 100000 in
set_option maxHeartbeats 4000000 in
theorem cf_value1O {t : List UInt8} (ht : t.length ≤ 1100000) : Cf Tryd.prog 27 [] [.agg [.i 1, .s t, .i 0, .u32 0, .i 0]] [] (.s (t)) := by
  refine Cf.introR tabT {} D0 (by kernel_rfl) tab_ok Tryd.func27 Tryd.ntmps27 rfl rfl (D0_ok) (by kernel_rfl) ?_
  refine knF ?_
  refine knF ?_
  refine knF ?_
  refine knF ?_
  refine knF ?_
  refine knF ?_
  refine knF ?_
  repeat (refine Ob.mk ?_ ?_; focus ((exact Eq.refl _)))
  trivial
set_option maxRecDepth 100000 in
set_option maxHeartbeats 4000000 in
theorem cf_value2O {n : Int} (h0 : 0 ≤ n) (h1 : n ≤ 65535) : Cf Tryd.prog 27 [] [.agg [.i 2, .s [], .i n, .u32 0, .i 0]] [] (.s (itoa n)) := by
  refine Cf.introR tabT {} D0 (by kernel_rfl) tab_ok Tryd.func27 Tryd.ntmps27 rfl rfl (D0_ok) (by kernel_rfl) ?_
  refine knT ?_
  refine knT ?_
  refine ⟨_, _, _, _, (cf_Itoa (n := n) (by omega) (by omega)), ?_⟩
  repeat (refine Ob.mk ?_ ?_; focus ((exact Eq.refl _)))
  trivial
set_option maxRecDepth 100000 in
set_option maxHeartbeats 4000000 in
theorem cf_value3O  : Cf Tryd.prog 27 [] [.agg [.i 3, .s [], .i 0, .u32 0, .i 0]] [] (.s (tru)) := by
  refine Cf.introR tabT {} D0 (by kernel_rfl) tab_ok Tryd.func27 Tryd.ntmps27 rfl rfl (D0_ok) (by kernel_rfl) ?_
  refine knF ?_
  refine knF ?_
  refine knT ?_
  refine knT ?_
  repeat (refine Ob.mk ?_ ?_; focus ((exact Eq.refl _)))
  trivial
set_option maxRecDepth 100000 in
set_option maxHeartbeats 4000000 in
theorem cf_value4O {t : List UInt8} (ht : t.length ≤ 1100000) : Cf Tryd.prog 27 [] [.agg [.i 4, .s t, .i 0, .u32 0, .i 0]] [] (.s (t)) := by
  refine Cf.introR tabT {} D0 (by kernel_rfl) tab_ok Tryd.func27 Tryd.ntmps27 rfl rfl (D0_ok) (by kernel_rfl) ?_
  refine knF ?_
  refine knF ?_
  refine knF ?_
  refine knF ?_
  refine knF ?_
  refine knF ?_
  refine knF ?_
  repeat (refine Ob.mk ?_ ?_; focus ((exact Eq.refl _)))
  trivial
set_option maxRecDepth 100000 in
set_option maxHeartbeats 4000000 in
theorem cf_value5O  : Cf Tryd.prog 27 [] [.agg [.i 5, .s [], .i 0, .u32 0, .i 0]] [] (.s (tru)) := by
  refine Cf.introR tabT {} D0 (by kernel_rfl) tab_ok Tryd.func27 Tryd.ntmps27 rfl rfl (D0_ok) (by kernel_rfl) ?_
  refine knF ?_
  refine knF ?_
  refine knF ?_
  refine knT ?_
  refine knT ?_
  repeat (refine Ob.mk ?_ ?_; focus ((exact Eq.refl _)))
  trivial
set_option maxRecDepth 100000 in
set_option maxHeartbeats 4000000 in
theorem cf_value6O {t : List UInt8} (ht : t.length ≤ 1100000) : Cf Tryd.prog 27 [] [.agg [.i 6, .s t, .i 0, .u32 0, .i 0]] [] (.s (if t = [] then zs64 else t)) := by
  refine Cf.introR tabT {} D0 (by kernel_rfl) tab_ok Tryd.func27 Tryd.ntmps27 rfl rfl (D0_ok) (by kernel_rfl) ?_
  refine knF ?_
  refine knF ?_
  refine knF ?_
  refine knF ?_
  refine knF ?_
  refine knF ?_
  refine knT ?_
  refine ⟨fun h8 => ?_, fun h8 => ?_⟩
  · skip
    have c8 := h8
    (simp only [bsX] at c8)
    have ht1 : t = [] := by simpa using h8
    refine ⟨_, _, _, _, cf_zs, ?_⟩
    repeat (refine Ob.mk ?_ ?_; (focus (first | (rw [if_pos ht1]; done) | (exact Eq.refl _))))
    trivial
  · skip
    have c8 := h8
    (simp only [bsX] at c8)
    have ht1 : ¬ t = [] := by simpa using h8
    repeat (refine Ob.mk ?_ ?_; (focus (((rw [if_neg ht1]; done)))))
    trivial
set_option maxRecDepth 100000 in
set_option maxHeartbeats 4000000 in
theorem cf_value7O {t : List UInt8} (ht : t.length ≤ 1100000) : Cf Tryd.prog 27 [] [.agg [.i 7, .s t, .i 0, .u32 0, .i 0]] [] (.s (t)) := by
  refine Cf.introR tabT {} D0 (by kernel_rfl) tab_ok Tryd.func27 Tryd.ntmps27 rfl rfl (D0_ok) (by kernel_rfl) ?_
  refine knF ?_
  refine knF ?_
  refine knF ?_
  refine knF ?_
  refine knF ?_
  refine knF ?_
  refine knF ?_
  repeat (refine Ob.mk ?_ ?_; focus ((exact Eq.refl _)))
  trivial
set_option maxRecDepth 100000 in
set_option maxHeartbeats 4000000 in
theorem cf_value8O {n : Int} (h0 : 0 ≤ n) (h1 : n ≤ 65535) : Cf Tryd.prog 27 [] [.agg [.i 8, .s [], .i n, .u32 0, .i 0]] [] (.s (itoa n)) := by
  refine Cf.introR tabT {} D0 (by kernel_rfl) tab_ok Tryd.func27 Tryd.ntmps27 rfl rfl (D0_ok) (by kernel_rfl) ?_
  refine knF ?_
  refine knT ?_
  refine ⟨_, _, _, _, (cf_Itoa (n := n) (by omega) (by omega)), ?_⟩
  repeat (refine Ob.mk ?_ ?_; focus ((exact Eq.refl _)))
  trivial
set_option maxRecDepth 100000 in
set_option maxHeartbeats 4000000 in
theorem cf_value9O  : Cf Tryd.prog 27 [] [.agg [.i 9, .s [], .i 0, .u32 0, .i 0]] [] (.s (tru)) := by
  refine Cf.introR tabT {} D0 (by kernel_rfl) tab_ok Tryd.func27 Tryd.ntmps27 rfl rfl (D0_ok) (by kernel_rfl) ?_
  refine knF ?_
  refine knF ?_
  refine knF ?_
  refine knF ?_
  refine knT ?_
  repeat (refine Ob.mk ?_ ?_; focus ((exact Eq.refl _)))
  trivial
set_option maxRecDepth 100000 in
set_option maxHeartbeats 4000000 in
theorem cf_value10O {p : List Bool} (hp : p.length ≤ 32) : Cf Tryd.prog 27 [] [.agg [.i 10, .s [], .i 0, .u32 (adr p), .i (p.length : Int)]] [] (.s (netT p)) := by
  refine Cf.introR tabT {} D0 (by kernel_rfl) tab_ok Tryd.func27 Tryd.ntmps27 rfl rfl (D0_ok) (by kernel_rfl) ?_
  refine knF ?_
  refine knF ?_
  refine knF ?_
  refine knF ?_
  refine knF ?_
  refine knT ?_
  refine ⟨_, _, _, _, (cf_netText hp), ?_⟩
  repeat (refine Ob.mk ?_ ?_; focus ((exact Eq.refl _)))
  trivial
theorem val_6 (t : List UInt8) : valS ⟨6, t, 0, []⟩ = if t = [] then zs64 else t := by
  have e : valS ⟨6, t, 0, []⟩ = if (6 : Int) = 6 ∧ t = [] then zs64 else t := rfl
  rw [e]
  by_cases h : t = []
  · rw [if_pos h, if_pos (And.intro rfl h)]
  · rw [if_neg h, if_neg (fun k : (6 : Int) = 6 ∧ t = [] => h k.2)]
theorem chk_num {k n : Int} (hk : k = 2 ∨ k = 8) (h0 : 0 ≤ n) (h1 : n ≤ 65535) : chkS ⟨k, [], n, []⟩ = 0 := by
  rcases hk with rfl | rfl
  · show (if _ then (4 : Int) else 0) = 0
    exact if_neg (by intro h; have := h.2; dsimp at this; omega)
  · show (if _ then (4 : Int) else 0) = 0
    exact if_neg (by intro h; have := h.2; dsimp at this; omega)
theorem isT_10 (k : Int) (h1 : 1 ≤ k) (h2 : k ≤ 10) : k = 1 ∨ k = 2 ∨ k = 3 ∨ k = 4 ∨ k = 5 ∨ k = 6 ∨ k = 7 ∨ k = 8 ∨ k = 9 ∨ k = 10 := by omega
theorem cf_bCheck {s : SetS} (h : formS s) : Cf Tryd.prog 25 [] [setE s] [] (.i (chkS s)) := by
  obtain ⟨h1, h2, h3, h4, h5, h6, h7, h8⟩ := h
  obtain ⟨k, t, n, p⟩ := s
  rcases isT_10 k h1 h2 with e | e | e | e | e | e | e | e | e | e
  · obtain rfl : k = 1 := e
    obtain rfl : n = 0 := h4 rfl
    obtain rfl : p = [] := h5 (show ¬ ((1 : Int) = 10) by decide)
    exact cf_Check1O h6
  · obtain rfl : k = 2 := e
    obtain rfl : t = [] := h3 rfl
    obtain rfl : p = [] := h5 (show ¬ ((2 : Int) = 10) by decide)
    rw [show chkS ⟨2, [], n, []⟩ = 0 from chk_num (by decide) (h7 rfl).1 (h7 rfl).2]
    exact cf_Check2O (h7 rfl).1 (h7 rfl).2
  · obtain rfl : k = 3 := e
    obtain rfl : t = [] := h3 rfl
    obtain rfl : n = 0 := h4 rfl
    obtain rfl : p = [] := h5 (show ¬ ((3 : Int) = 10) by decide)
    exact cf_Check3O
  · obtain rfl : k = 4 := e
    obtain rfl : n = 0 := h4 rfl
    obtain rfl : p = [] := h5 (show ¬ ((4 : Int) = 10) by decide)
    exact cf_Check4O h6
  · obtain rfl : k = 5 := e
    obtain rfl : t = [] := h3 rfl
    obtain rfl : n = 0 := h4 rfl
    obtain rfl : p = [] := h5 (show ¬ ((5 : Int) = 10) by decide)
    exact cf_Check5O
  · obtain rfl : k = 6 := e
    obtain rfl : n = 0 := h4 rfl
    obtain rfl : p = [] := h5 (show ¬ ((6 : Int) = 10) by decide)
    exact cf_Check6O h6
  · obtain rfl : k = 7 := e
    obtain rfl : n = 0 := h4 rfl
    obtain rfl : p = [] := h5 (show ¬ ((7 : Int) = 10) by decide)
    exact cf_Check7O h6
  · obtain rfl : k = 8 := e
    obtain rfl : t = [] := h3 rfl
    obtain rfl : p = [] := h5 (show ¬ ((8 : Int) = 10) by decide)
    rw [show chkS ⟨8, [], n, []⟩ = 0 from chk_num (by decide) (h7 rfl).1 (h7 rfl).2]
    exact cf_Check8O (h7 rfl).1 (h7 rfl).2
  · obtain rfl : k = 9 := e
    obtain rfl : t = [] := h3 rfl
    obtain rfl : n = 0 := h4 rfl
    obtain rfl : p = [] := h5 (show ¬ ((9 : Int) = 10) by decide)
    exact cf_Check9O
  · obtain rfl : k = 10 := e
    obtain rfl : t = [] := h3 rfl
    obtain rfl : n = 0 := h4 rfl
    exact cf_Check10O h8
theorem cf_bValue {s : SetS} (h : formS s) : Cf Tryd.prog 27 [] [setE s] [] (.s (valS s)) := by
  obtain ⟨h1, h2, h3, h4, h5, h6, h7, h8⟩ := h
  obtain ⟨k, t, n, p⟩ := s
  rcases isT_10 k h1 h2 with e | e | e | e | e | e | e | e | e | e
  · obtain rfl : k = 1 := e
    obtain rfl : n = 0 := h4 rfl
    obtain rfl : p = [] := h5 (show ¬ ((1 : Int) = 10) by decide)
    exact cf_value1O h6
  · obtain rfl : k = 2 := e
    obtain rfl : t = [] := h3 rfl
    obtain rfl : p = [] := h5 (show ¬ ((2 : Int) = 10) by decide)
    exact cf_value2O (h7 rfl).1 (h7 rfl).2
  · obtain rfl : k = 3 := e
    obtain rfl : t = [] := h3 rfl
    obtain rfl : n = 0 := h4 rfl
    obtain rfl : p = [] := h5 (show ¬ ((3 : Int) = 10) by decide)
    exact cf_value3O
  · obtain rfl : k = 4 := e
    obtain rfl : n = 0 := h4 rfl
    obtain rfl : p = [] := h5 (show ¬ ((4 : Int) = 10) by decide)
    exact cf_value4O h6
  · obtain rfl : k = 5 := e
    obtain rfl : t = [] := h3 rfl
    obtain rfl : n = 0 := h4 rfl
    obtain rfl : p = [] := h5 (show ¬ ((5 : Int) = 10) by decide)
    exact cf_value5O
  · obtain rfl : k = 6 := e
    obtain rfl : n = 0 := h4 rfl
    obtain rfl : p = [] := h5 (show ¬ ((6 : Int) = 10) by decide)
    rw [show valS ⟨6, t, 0, []⟩ = (if t = [] then zs64 else t) from val_6 t]
    exact cf_value6O h6
  · obtain rfl : k = 7 := e
    obtain rfl : n = 0 := h4 rfl
    obtain rfl : p = [] := h5 (show ¬ ((7 : Int) = 10) by decide)
    exact cf_value7O h6
  · obtain rfl : k = 8 := e
    obtain rfl : t = [] := h3 rfl
    obtain rfl : p = [] := h5 (show ¬ ((8 : Int) = 10) by decide)
    exact cf_value8O (h7 rfl).1 (h7 rfl).2
  · obtain rfl : k = 9 := e
    obtain rfl : t = [] := h3 rfl
    obtain rfl : n = 0 := h4 rfl
    obtain rfl : p = [] := h5 (show ¬ ((9 : Int) = 10) by decide)
    exact cf_value9O
  · obtain rfl : k = 10 := e
    obtain rfl : t = [] := h3 rfl
    obtain rfl : n = 0 := h4 rfl
    exact cf_value10O h8
abbrev lnE (x : LnP) : EV := .agg [.s x.1, .s x.2]
set_option maxRecDepth 100000 in
set_option maxHeartbeats 4000000 in
theorem cf_bLine {s : SetS} (h : formS s) : Cf Tryd.prog 12 [] [setE s] [] (.tup [lnE (lineS s).1, .i (lineS s).2]) := by
  have hk1 : 1 ≤ s.k := h.1
  have hk2 : s.k ≤ 10 := h.2.1
  refine Cf.introR tabT {} (DR _ _ _ tabT {}) (by kernel_rfl) tab_ok Tryd.func12 Tryd.ntmps12 rfl rfl (DR_ok tab_ok (by kernel_rfl)) (by kernel_rfl) ?_
  refine ⟨_, _, _, _, (cf_bCheck h), ?_⟩
  repeat (refine Ob.mk ?_ ?_; focus ((exact Eq.refl _)))
  refine ⟨fun h1 => ?_, fun h1 => ?_⟩
  · skip
    have c1 := h1
    (simp only [bsX] at c1)
    have hz : ¬ chkS s = 0 := by simpa using h1
    have hR : lineS s = (([], []), chkS s) := by unfold lineS; exact if_neg hz
    repeat (refine Ob.mk ?_ ?_; (focus (((rw [hR]; done)))))
    trivial
  · skip
    have c1 := h1
    (simp only [bsX] at c1)
    have hz : chkS s = 0 := by simpa using h1
    have hR : lineS s = ((wrd s.k.toNat, valS s), 0) := by unfold lineS; exact if_pos hz
    refine ⟨[0, 0, 2, 7, 0, 17, 63, 127, 255], by kernel_rfl, ?_⟩
    refine ⟨_, _, _, _, cf_bwords, ?_⟩
    repeat (refine Ob.mk ?_ ?_; focus ((exact ⟨by omega, by omega⟩)))
    refine ⟨_, _, _, _, (cf_bValue h), ?_⟩
    repeat (refine Ob.mk ?_ ?_; (focus (first | (rw [hR]; done) | (exact Eq.refl _))))
    trivial
end Go.Proofs.YtcebndkiagbddaaDoor
