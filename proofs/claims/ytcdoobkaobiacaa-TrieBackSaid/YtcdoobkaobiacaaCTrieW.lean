/- Tries: contracts of Get, All, Drop. -/
import Derived.Test.YtcdoobkaobiacaaCTrieD
import Derived.Test.YtcdoobkaobiacaaTrieH
namespace Go.Proofs.Ytcdoobkaobiacaa
open Go.RowKit Tr
set_option linter.unusedVariables false
set_option linter.unusedSimpArgs false

def Tr.pe : Tr → EV
  | .nil => .rp none
  | .node p o l r => nodeE p o l r
theorem cf_treeN {p o l r} (w : (Tr.node p o l r).wf) (h : (Tr.node p o l r).flat.length ≤ 1000000) : Cf Try.prog 21 [] [nodesE (Tr.node p o l r).flat] [] (nodeE p o l r) := cf_tree w h
theorem get_go {p n : List Bool} (h : (!(decide (adr p = adr n) && decide ((p.length : Int) = (n.length : Int))) && decide (p <+: n)) = true) : p ≠ n ∧ p <+: n := by
  rw [Bool.and_eq_true] at h
  exact ⟨fun e => by subst e; simp at h, by simpa using h.2⟩
theorem get_halt {p n : List Bool} (hp : p.length ≤ 32) (h : (!(decide (adr p = adr n) && decide ((p.length : Int) = (n.length : Int))) && decide (p <+: n)) = false) : ¬ (p ≠ n ∧ p <+: n) := by
  rintro ⟨a, b⟩
  rw [adr_eqB hp a, decide_eq_true b] at h; cases h
theorem get_no {p n : List Bool} {o : List UInt8} (h : (!(decide (adr p = adr n) && decide ((p.length : Int) = (n.length : Int))) || decide (o = [])) = true) : ¬ (p = n ∧ o ≠ []) := by
  rintro ⟨rfl, k⟩
  simp [k] at h
theorem get_yes {p n : List Bool} {o : List UInt8} (hp : p.length ≤ 32) (h : (!(decide (adr p = adr n) && decide ((p.length : Int) = (n.length : Int))) || decide (o = [])) = false) : p = n ∧ o ≠ [] := by
  rw [Bool.or_eq_false_iff] at h
  refine ⟨?_, by simpa using h.2⟩
  by_cases e : p = n
  · exact e
  · rw [adr_eqB hp e] at h; cases h.1
set_option maxRecDepth 100000 in
set_option maxHeartbeats 4000000 in
theorem cf_GetNilO {n : List Bool} (hn : n.length ≤ 32) : Cf Try.prog 10 [] [nodesE [], netE n] [] (.tup [.s [], .i 5]) := by
  refine Cf.introR tabT {} (DR _ _ _ tabT {}) (by kernel_rfl) tab_ok Try.func10 Try.ntmps10 rfl rfl (DR_ok tab_ok (by kernel_rfl)) (by kernel_rfl) ?_
  refine ⟨_, _, _, _, (cf_Chk (T := .nil) trivial (by decide)), ?_⟩
  repeat (refine Ob.mk ?_ ?_; (focus (first | (exact Eq.refl _) | (simp only [SrcE.len, Nat.zero_add, List.length_append, List.length_cons, List.length_nil]; omega))))
  refine ⟨fun h1 => ?_, fun h1 => ?_⟩
  · skip
    (simp only [Int.reduceToNat, UInt8.reduceOfNat] at h1)
    have c1 := h1
    (simp only [Bool.not_eq_true', Bool.not_eq_false', Bool.not_true, Bool.not_false, Bool.and_eq_true, Bool.or_eq_true, Bool.and_eq_false_iff, Bool.or_eq_false_iff, Bool.not_not, beq_true, beq_false, decide_eq_true_eq, decide_eq_false_iff_not] at c1)
    repeat (refine Ob.mk ?_ ?_; (focus (first | (exact Eq.refl _) | (simp_all; done))))
    trivial
  · skip
    (simp only [Int.reduceToNat, UInt8.reduceOfNat] at h1)
    have c1 := h1
    (simp only [Bool.not_eq_true', Bool.not_eq_false', Bool.not_true, Bool.not_false, Bool.and_eq_true, Bool.or_eq_true, Bool.and_eq_false_iff, Bool.or_eq_false_iff, Bool.not_not, beq_true, beq_false, decide_eq_true_eq, decide_eq_false_iff_not] at c1)
    refine ⟨_, _, _, _, (cf_nCheck hn), ?_⟩
    repeat (refine Ob.mk ?_ ?_; focus ((exact Eq.refl _)))
    refine ⟨fun h2 => ?_, fun h2 => ?_⟩
    · skip
      (simp only [Int.reduceToNat, UInt8.reduceOfNat] at h2)
      have c2 := h2
      (simp only [Bool.not_eq_true', Bool.not_eq_false', Bool.not_true, Bool.not_false, Bool.and_eq_true, Bool.or_eq_true, Bool.and_eq_false_iff, Bool.or_eq_false_iff, Bool.not_not, beq_true, beq_false, decide_eq_true_eq, decide_eq_false_iff_not] at c2)
      repeat (refine Ob.mk ?_ ?_; (focus (first | (exact Eq.refl _) | (simp_all; done))))
      trivial
    · skip
      (simp only [Int.reduceToNat, UInt8.reduceOfNat] at h2)
      have c2 := h2
      (simp only [Bool.not_eq_true', Bool.not_eq_false', Bool.not_true, Bool.not_false, Bool.and_eq_true, Bool.or_eq_true, Bool.and_eq_false_iff, Bool.or_eq_false_iff, Bool.not_not, beq_true, beq_false, decide_eq_true_eq, decide_eq_false_iff_not] at c2)
      refine ⟨_, _, _, _, cf_treeNilO, ?_⟩
      repeat (refine Ob.mk ?_ ?_; (focus (first | (exact Eq.refl _) | (simp only [SrcE.len, Nat.zero_add, List.length_append, List.length_cons, List.length_nil]; omega))))
      refine ⟨Unit, fun t => ⟨[(3, .own 1003 0), (8, .v (.pointer none))], [(1003, .box [.u32 (adr n), .i (n.length : Int)] 31)]⟩, fun t => True, fun t => 0, (), trivial, ?_, fun t hx1 => ?_⟩
      · skip
        repeat (refine Ob.mk ?_ ?_; focus ((exact Eq.refl _)))
        trivial
      refine ⟨[0, 1, 3, 7, 15, 31, 63, 7, 255, 511, 1023, 2047, 4095, 8191, 16383, 2047, 65535, 131071], by kernel_rfl, ?_⟩
      repeat (refine Ob.mk ?_ ?_; (focus (first | (exact Eq.refl _) | (intro hg; ((simp_all; done))))))
      refine gx (fun hc => (show Cf Try.prog 23 [] [.any, netE n] [] (.b false) from absurd (show false = true from hc) (by decide))) (fun hk => ⟨hk, ?_⟩)
      repeat (refine Ob.mk ?_ ?_; (focus (first | (intro _; exact Eq.refl _) | (exact fun hg => beq_t hg))))
      refine ⟨fun h3 => ?_, fun h3 => ?_⟩
      · skip
        have c3 := h3
        (simp only [Bool.not_eq_true', Bool.not_eq_false', Bool.not_true, Bool.not_false, Bool.and_eq_true, Bool.or_eq_true, Bool.and_eq_false_iff, Bool.or_eq_false_iff, Bool.not_not, beq_true, beq_false, decide_eq_true_eq, decide_eq_false_iff_not] at c3)
        exact absurd (show false = true from h3) (by decide)
      · skip
        have c3 := h3
        (simp only [Bool.not_eq_true', Bool.not_eq_false', Bool.not_true, Bool.not_false, Bool.and_eq_true, Bool.or_eq_true, Bool.and_eq_false_iff, Bool.or_eq_false_iff, Bool.not_not, beq_true, beq_false, decide_eq_true_eq, decide_eq_false_iff_not] at c3)
        refine ⟨[0, 1, 3, 7, 15, 31, 63, 7, 255, 511, 1023, 2047, 4095, 8191, 16383, 32767, 65535], by kernel_rfl, ?_⟩
        repeat (refine Ob.mk ?_ ?_; (focus (first | (exact Eq.refl _) | (intro hg; ((simp_all; done))))))
        refine ⟨fun h4 => ?_, fun h4 => ?_⟩
        · skip
          have c4 := h4
          (simp only [Bool.not_eq_true', Bool.not_eq_false', Bool.not_true, Bool.not_false, Bool.and_eq_true, Bool.or_eq_true, Bool.and_eq_false_iff, Bool.or_eq_false_iff, Bool.not_not, beq_true, beq_false, decide_eq_true_eq, decide_eq_false_iff_not] at c4)
          repeat (refine Ob.mk ?_ ?_; focus ((exact Eq.refl _)))
          trivial
        · skip
          have c4 := h4
          (simp only [Bool.not_eq_true', Bool.not_eq_false', Bool.not_true, Bool.not_false, Bool.and_eq_true, Bool.or_eq_true, Bool.and_eq_false_iff, Bool.or_eq_false_iff, Bool.not_not, beq_true, beq_false, decide_eq_true_eq, decide_eq_false_iff_not] at c4)
          exact absurd (show true = false from h4) (by decide)
set_option maxRecDepth 100000 in
set_option maxHeartbeats 4000000 in
theorem cf_GetO {p0 n : List Bool} {o0 : List UInt8} {l0 r0 T : Tr} (hT : T = .node p0 o0 l0 r0) (w : T.wf) (h1 : T.flat.length ≤ 1000) (hn : n.length ≤ 32) : Cf Try.prog 10 [] [nodesE T.flat, netE n] [] (.tup [.s (getR T n).1, .i (getR T n).2]) := by
  refine Cf.introR tabT {} (DR _ _ _ tabT {}) (by kernel_rfl) tab_ok Try.func10 Try.ntmps10 rfl rfl (DR_ok tab_ok (by kernel_rfl)) (by kernel_rfl) ?_
  refine ⟨_, _, _, _, (cf_Chk w (by omega)), ?_⟩
  repeat (refine Ob.mk ?_ ?_; (focus (first | (exact Eq.refl _) | (intro hg; ((intro hq; ((simp_all; done))))))))
  refine ⟨fun h1 => ?_, fun h1 => ?_⟩
  · skip
    (simp only [Int.reduceToNat, UInt8.reduceOfNat] at h1)
    have c1 := h1
    (simp only [Bool.not_eq_true', Bool.not_eq_false', Bool.not_true, Bool.not_false, Bool.and_eq_true, Bool.or_eq_true, Bool.and_eq_false_iff, Bool.or_eq_false_iff, Bool.not_not, beq_true, beq_false, decide_eq_true_eq, decide_eq_false_iff_not] at c1)
    repeat (refine Ob.mk ?_ ?_; (focus (((simp_all; done)))))
    trivial
  · skip
    (simp only [Int.reduceToNat, UInt8.reduceOfNat] at h1)
    have c1 := h1
    (simp only [Bool.not_eq_true', Bool.not_eq_false', Bool.not_true, Bool.not_false, Bool.and_eq_true, Bool.or_eq_true, Bool.and_eq_false_iff, Bool.or_eq_false_iff, Bool.not_not, beq_true, beq_false, decide_eq_true_eq, decide_eq_false_iff_not] at c1)
    refine ⟨_, _, _, _, (cf_nCheck hn), ?_⟩
    repeat (refine Ob.mk ?_ ?_; focus ((exact Eq.refl _)))
    refine ⟨fun h2 => ?_, fun h2 => ?_⟩
    · skip
      (simp only [Int.reduceToNat, UInt8.reduceOfNat] at h2)
      have c2 := h2
      (simp only [Bool.not_eq_true', Bool.not_eq_false', Bool.not_true, Bool.not_false, Bool.and_eq_true, Bool.or_eq_true, Bool.and_eq_false_iff, Bool.or_eq_false_iff, Bool.not_not, beq_true, beq_false, decide_eq_true_eq, decide_eq_false_iff_not] at c2)
      repeat (refine Ob.mk ?_ ?_; (focus (((simp_all; done)))))
      trivial
    · skip
      (simp only [Int.reduceToNat, UInt8.reduceOfNat] at h2)
      have c2 := h2
      (simp only [Bool.not_eq_true', Bool.not_eq_false', Bool.not_true, Bool.not_false, Bool.and_eq_true, Bool.or_eq_true, Bool.and_eq_false_iff, Bool.or_eq_false_iff, Bool.not_not, beq_true, beq_false, decide_eq_true_eq, decide_eq_false_iff_not] at c2)
      refine ⟨_, _, _, _, (hT ▸ cf_tree w (by omega)), ?_⟩
      repeat (refine Ob.mk ?_ ?_; (focus (first | (intro hg; ((intro hq; ((simp_all; done))))) | (simp_all; done))))
      refine ⟨Tr, fun t => ⟨[(3, .own 1003 0), (8, t.pe)], [(1003, .box [.u32 (adr n), .i (n.length : Int)] 31)]⟩, fun t => t.wf ∧ stopT t n = stopT T n, fun t => t.flat.length, (.node p0 o0 l0 r0), (by rw [← hT]; exact ⟨w, rfl⟩), ?_, fun t hx1 => ?_⟩
      · skip
        repeat (refine Ob.mk ?_ ?_; focus ((exact Eq.refl _)))
        trivial
      rcases t with _ | ⟨p, o, l, r⟩
      · skip
        have hS : stopT T n = .nil := hx1.2.symm
        refine ⟨[0, 1, 3, 7, 15, 31, 63, 7, 255, 511, 1023, 2047, 4095, 8191, 16383, 2047, 65535, 131071], by kernel_rfl, ?_⟩
        repeat (refine Ob.mk ?_ ?_; (focus (first | (exact Eq.refl _) | (intro hg; ((simp_all; done))))))
        refine gx (fun hc => (show Cf Try.prog 23 [] [.any, netE n] [] (.b false) from absurd (show false = true from hc) (by decide))) (fun hk => ⟨hk, ?_⟩)
        repeat (refine Ob.mk ?_ ?_; (focus (first | (intro _; exact Eq.refl _) | (exact fun hg => beq_t hg))))
        refine ⟨fun h3 => ?_, fun h3 => ?_⟩
        · skip
          have c3 := h3
          (simp only [Bool.not_eq_true', Bool.not_eq_false', Bool.not_true, Bool.not_false, Bool.and_eq_true, Bool.or_eq_true, Bool.and_eq_false_iff, Bool.or_eq_false_iff, Bool.not_not, beq_true, beq_false, decide_eq_true_eq, decide_eq_false_iff_not] at c3)
          exact absurd (show false = true from h3) (by decide)
        · skip
          have c3 := h3
          (simp only [Bool.not_eq_true', Bool.not_eq_false', Bool.not_true, Bool.not_false, Bool.and_eq_true, Bool.or_eq_true, Bool.and_eq_false_iff, Bool.or_eq_false_iff, Bool.not_not, beq_true, beq_false, decide_eq_true_eq, decide_eq_false_iff_not] at c3)
          refine ⟨[0, 1, 3, 7, 15, 31, 63, 7, 255, 511, 1023, 2047, 4095, 8191, 16383, 32767, 65535], by kernel_rfl, ?_⟩
          repeat (refine Ob.mk ?_ ?_; (focus (first | (exact Eq.refl _) | (intro hg; ((simp_all; done))))))
          refine ⟨fun h4 => ?_, fun h4 => ?_⟩
          · skip
            have c4 := h4
            (simp only [Bool.not_eq_true', Bool.not_eq_false', Bool.not_true, Bool.not_false, Bool.and_eq_true, Bool.or_eq_true, Bool.and_eq_false_iff, Bool.or_eq_false_iff, Bool.not_not, beq_true, beq_false, decide_eq_true_eq, decide_eq_false_iff_not] at c4)
            have hr := getR_nil hS
            repeat (refine Ob.mk ?_ ?_; (focus (((rw [hr]; done)))))
            trivial
          · skip
            have c4 := h4
            (simp only [Bool.not_eq_true', Bool.not_eq_false', Bool.not_true, Bool.not_false, Bool.and_eq_true, Bool.or_eq_true, Bool.and_eq_false_iff, Bool.or_eq_false_iff, Bool.not_not, beq_true, beq_false, decide_eq_true_eq, decide_eq_false_iff_not] at c4)
            exact absurd (show true = false from h4) (by decide)
      · skip
        obtain ⟨wt, hs⟩ := hx1
        have hp := wt.1
        refine ⟨[0, 1, 3, 7, 15, 31, 63, 7, 255, 511, 1023, 2047, 4095, 8191, 16383, 2047, 65535, 131071], by kernel_rfl, ?_⟩
        repeat (refine Ob.mk ?_ ?_; (focus (first | (intro _; exact Eq.refl _) | (exact fun hg => hg))))
        refine gx2 (cf_nHolds hp hn) (fun hk => ⟨fun _ => hk, ?_⟩)
        repeat (refine Ob.mk ?_ ?_; (focus (first | (intro _; exact Eq.refl _) | (exact fun hg => beq_t hg) | (exact fun hg => hg))))
        refine ⟨fun h3 => ?_, fun h3 => ?_⟩
        · skip
          have c3 := h3
          (simp only [Bool.not_eq_true', Bool.not_eq_false', Bool.not_true, Bool.not_false, Bool.and_eq_true, Bool.or_eq_true, Bool.and_eq_false_iff, Bool.or_eq_false_iff, Bool.not_not, beq_true, beq_false, decide_eq_true_eq, decide_eq_false_iff_not] at c3)
          have hc1 := get_go h3
          have hl : p.length < 32 := by have := (pre_bit hc1.2 hc1.1).length_le; simp at this; omega
          rcases Bool.eq_false_or_eq_true (bitAt n p.length) with hb | hb; rcases r with _ | ⟨rp, ro, rl, rr⟩; rotate_left 2; rcases l with _ | ⟨lp, lo, ll, lr⟩
          · skip
            refine ⟨[0, 0, 2, 6, 14, 0, 62, 1, 129, 511, 1023, 2047], by kernel_rfl, ?_⟩
            refine ⟨_, _, _, _, (cf_side hl hb), ?_⟩
            repeat (refine Ob.mk ?_ ?_; (focus (first | (exact Eq.refl _) | (simp [SrcE.len]; done))))
            have hk : (Tr.nil).wf ∧ stopT (Tr.nil) n = stopT T n := ⟨(by exact wt.2.2.2.2.1), (by rw [← hs, stop_step hc1.1 hc1.2 hb]; rfl)⟩
            refine ⟨(Tr.nil), (by assumption), (by (simp only [flat_len]; omega)), ?_⟩
            repeat (refine Ob.mk ?_ ?_; focus ((exact Eq.refl _)))
            trivial
          · skip
            refine ⟨[0, 0, 2, 6, 14, 0, 62, 1, 129, 511, 1023, 2047], by kernel_rfl, ?_⟩
            refine ⟨_, _, _, _, (cf_side hl hb), ?_⟩
            repeat (refine Ob.mk ?_ ?_; (focus (first | (exact Eq.refl _) | (simp [SrcE.len]; done))))
            have hk : ((Tr.node lp lo ll lr)).wf ∧ stopT ((Tr.node lp lo ll lr)) n = stopT T n := ⟨(by exact wt.2.2.2.2.1), (by rw [← hs, stop_step hc1.1 hc1.2 hb]; rfl)⟩
            refine ⟨((Tr.node lp lo ll lr)), (by assumption), (by (simp only [flat_len]; omega)), ?_⟩
            repeat (refine Ob.mk ?_ ?_; focus ((exact Eq.refl _)))
            trivial
          · skip
            refine ⟨[0, 0, 2, 6, 14, 0, 62, 1, 129, 511, 1023, 2047], by kernel_rfl, ?_⟩
            refine ⟨_, _, _, _, (cf_side hl hb), ?_⟩
            repeat (refine Ob.mk ?_ ?_; (focus (first | (exact Eq.refl _) | (simp [SrcE.len]; done))))
            have hk : (Tr.nil).wf ∧ stopT (Tr.nil) n = stopT T n := ⟨(by exact wt.2.2.2.2.2), (by rw [← hs, stop_step hc1.1 hc1.2 hb]; rfl)⟩
            refine ⟨(Tr.nil), (by assumption), (by (simp only [flat_len]; omega)), ?_⟩
            repeat (refine Ob.mk ?_ ?_; focus ((exact Eq.refl _)))
            trivial
          · skip
            refine ⟨[0, 0, 2, 6, 14, 0, 62, 1, 129, 511, 1023, 2047], by kernel_rfl, ?_⟩
            refine ⟨_, _, _, _, (cf_side hl hb), ?_⟩
            repeat (refine Ob.mk ?_ ?_; (focus (first | (exact Eq.refl _) | (simp [SrcE.len]; done))))
            have hk : ((Tr.node rp ro rl rr)).wf ∧ stopT ((Tr.node rp ro rl rr)) n = stopT T n := ⟨(by exact wt.2.2.2.2.2), (by rw [← hs, stop_step hc1.1 hc1.2 hb]; rfl)⟩
            refine ⟨((Tr.node rp ro rl rr)), (by assumption), (by (simp only [flat_len]; omega)), ?_⟩
            repeat (refine Ob.mk ?_ ?_; focus ((exact Eq.refl _)))
            trivial
        · skip
          have c3 := h3
          (simp only [Bool.not_eq_true', Bool.not_eq_false', Bool.not_true, Bool.not_false, Bool.and_eq_true, Bool.or_eq_true, Bool.and_eq_false_iff, Bool.or_eq_false_iff, Bool.not_not, beq_true, beq_false, decide_eq_true_eq, decide_eq_false_iff_not] at c3)
          have he : stopT T n = .node p o l r := by rw [← hs]; exact stop_end (get_halt hp h3)
          refine ⟨[0, 1, 3, 7, 15, 31, 63, 7, 255, 511, 1023, 2047, 4095, 8191, 16383, 32767, 65535], by kernel_rfl, ?_⟩
          repeat (refine Ob.mk ?_ ?_; (focus (first | (intro _; exact Eq.refl _) | (exact fun hg => beq_f hg) | (exact fun hg => hg))))
          refine ⟨fun h4 => ?_, fun h4 => ?_⟩
          · skip
            have c4 := h4
            (simp only [Bool.not_eq_true', Bool.not_eq_false', Bool.not_true, Bool.not_false, Bool.and_eq_true, Bool.or_eq_true, Bool.and_eq_false_iff, Bool.or_eq_false_iff, Bool.not_not, beq_true, beq_false, decide_eq_true_eq, decide_eq_false_iff_not] at c4)
            have hr := getR_no he (get_no h4)
            repeat (refine Ob.mk ?_ ?_; (focus (((rw [hr]; done)))))
            trivial
          · skip
            have c4 := h4
            (simp only [Bool.not_eq_true', Bool.not_eq_false', Bool.not_true, Bool.not_false, Bool.and_eq_true, Bool.or_eq_true, Bool.and_eq_false_iff, Bool.or_eq_false_iff, Bool.not_not, beq_true, beq_false, decide_eq_true_eq, decide_eq_false_iff_not] at c4)
            obtain ⟨e1, e2⟩ := get_yes hp h4
            subst e1
            have hr := getR_yes he e2
            repeat (refine Ob.mk ?_ ?_; (focus (((rw [hr]; done)))))
            trivial
theorem cf_Get : ∀ {T : Tr} {n : List Bool}, T.wf → T.flat.length ≤ 1000 → n.length ≤ 32 → Cf Try.prog 10 [] [nodesE T.flat, netE n] [] (.tup [.s (getR T n).1, .i (getR T n).2])
  | .nil, n, _, _, hn => by rw [getR_nil (show stopT .nil n = .nil from rfl)]; exact cf_GetNilO hn
  | .node p o l r, n, w, h, hn => cf_GetO rfl w h hn
set_option maxRecDepth 100000 in
set_option maxHeartbeats 4000000 in
theorem cf_DropO {T : Tr} {n : List Bool} {o : List UInt8} (w : T.wf) (h1 : T.flat.length ≤ 1000) (hn : n.length ≤ 32) (hg : getR T n = (o, 0)) : Cf Try.prog 14 [] [nodesE T.flat, netE n] [] (.tup [nodesE (stripT (fun p _ => decide (p = n)) T).flat, .i 0]) := by
  have h2 := strip_len (fun p _ => decide (p = n)) (T := T)
  have hG := cf_Get w h1 hn
  rw [hg] at hG
  refine Cf.introR tabT {} D0 (by kernel_rfl) tab_ok Try.func14 Try.ntmps14 rfl rfl (D0_ok) (by kernel_rfl) ?_
  refine ⟨_, _, _, _, hG, ?_⟩
  repeat (refine Ob.mk ?_ ?_; (focus (first | (exact Eq.refl _) | (intro hg; ((intro hq; ((simp_all; done))))))))
  refine ⟨fun h1 => ?_, fun h1 => ?_⟩
  · skip
    (simp only [Int.reduceToNat, UInt8.reduceOfNat] at h1)
    have c1 := h1
    (simp only [Bool.not_eq_true', Bool.not_eq_false', Bool.not_true, Bool.not_false, Bool.and_eq_true, Bool.or_eq_true, Bool.and_eq_false_iff, Bool.or_eq_false_iff, Bool.not_not, beq_true, beq_false, decide_eq_true_eq, decide_eq_false_iff_not] at c1)
    exact absurd (show false = true from h1) (by decide)
  · skip
    (simp only [Int.reduceToNat, UInt8.reduceOfNat] at h1)
    have c1 := h1
    (simp only [Bool.not_eq_true', Bool.not_eq_false', Bool.not_true, Bool.not_false, Bool.and_eq_true, Bool.or_eq_true, Bool.and_eq_false_iff, Bool.or_eq_false_iff, Bool.not_not, beq_true, beq_false, decide_eq_true_eq, decide_eq_false_iff_not] at c1)
    refine ⟨_, _, _, _, (cf_tree w (by omega)), ?_⟩
    repeat (refine Ob.mk ?_ ?_; (focus (first | (exact Eq.refl _) | (intro hg; ((intro hq; ((simp_all; done))))))))
    refine ⟨_, _, _, _, (cf_stripNet (n := n) (T := T) w), ?_⟩
    repeat (refine Ob.mk ?_ ?_; focus ((exact Eq.refl _)))
    refine ⟨_, _, _, _, (cf_list (T := stripT (fun p _ => decide (p = n)) T) (by omega)), ?_⟩
    repeat (refine Ob.mk ?_ ?_; focus ((exact Eq.refl _)))
    refine ⟨_, _, _, _, (cf_ndClone (L := (stripT (fun p _ => decide (p = n)) T).flat) (by omega)), ?_⟩
    repeat (refine Ob.mk ?_ ?_; (focus (first | (exact Eq.refl _) | (intro hg; ((intro hq; ((simp_all; done))))))))
    trivial
theorem allK_in {L : List Nd} {i : Nat} (h : (!decide ((nAt L i).o = [])) = true) : allK L (i + 1) = allK L i ++ [⟨(nAt L i).p, (nAt L i).o, 1⟩] := by rw [allK, h]; rfl
theorem allK_out {L : List Nd} {i : Nat} (h : (!decide ((nAt L i).o = [])) = false) : allK L (i + 1) = allK L i := by rw [allK, h]; rfl
theorem nd_snoc (L : List Nd) (x : Nd) {m : List EV} (h2 : ∀ j, j < 4 → m.getD j .any = ndC x j) : ∀ a, a < L.length + 1 → ∀ j, j < 4 → (bif Nat.blt a L.length then ndF L a j else m.getD ((a - L.length) * 4 + j) .any) = ndF (L ++ [x]) a j := by
  intro a ha j hj
  by_cases hq : a < L.length
  · have : Nat.blt a L.length = true := by simpa [Nat.blt_eq] using hq
    rw [this]
    show ndC (L.getD a default) j = ndC ((L ++ [x]).getD a default) j
    rw [List.getD_eq_getElem?_getD, List.getD_eq_getElem?_getD, List.getElem?_append_left hq]
  · obtain rfl : a = L.length := by omega
    have : Nat.blt L.length L.length = false := by cases hb : Nat.blt L.length L.length with | false => rfl | true => (rw [Nat.blt_eq] at hb; omega)
    rw [this, Nat.sub_self, Nat.zero_mul, Nat.zero_add]
    have e : (L ++ [x]).getD L.length default = x := by rw [List.getD_eq_getElem?_getD, List.getElem?_append_right (Nat.le_refl _)]; simp
    show m.getD j .any = ndC ((L ++ [x]).getD L.length default) j
    rw [e]; exact h2 j hj
set_option maxRecDepth 100000 in
set_option maxHeartbeats 4000000 in
theorem cf_AllO {T : Tr} (w : T.wf) (h1 : T.flat.length ≤ 1000) : Cf Try.prog 11 [] [nodesE T.flat] [] (.tup [nodesE (allK T.flat T.flat.length), .i 0]) := by
  refine Cf.introR tabT {nl := [(5, 50, 4)]} D0 (by kernel_rfl) tab_ok Try.func11 Try.ntmps11 rfl rfl (D0_ok) (by kernel_rfl) ?_
  refine ⟨_, _, _, _, (cf_Chk w (by omega)), ?_⟩
  repeat (refine Ob.mk ?_ ?_; focus (first | (exact fun _ _ _ _ => rfl) | (exact Eq.refl _)))
  refine ⟨fun h1 => ?_, fun h1 => ?_⟩
  · skip
    (simp only [Int.reduceToNat, UInt8.reduceOfNat] at h1)
    have c1 := h1
    (simp only [Bool.not_eq_true', Bool.not_eq_false', Bool.not_true, Bool.not_false, Bool.and_eq_true, Bool.or_eq_true, Bool.and_eq_false_iff, Bool.or_eq_false_iff, Bool.not_not, beq_true, beq_false, decide_eq_true_eq, decide_eq_false_iff_not] at c1)
    exact absurd (show false = true from h1) (by decide)
  · skip
    (simp only [Int.reduceToNat, UInt8.reduceOfNat] at h1)
    have c1 := h1
    (simp only [Bool.not_eq_true', Bool.not_eq_false', Bool.not_true, Bool.not_false, Bool.and_eq_true, Bool.or_eq_true, Bool.and_eq_false_iff, Bool.or_eq_false_iff, Bool.not_not, beq_true, beq_false, decide_eq_true_eq, decide_eq_false_iff_not] at c1)
    refine ⟨Nat, fun i => ⟨[(5, .osl 1005 (allK T.flat i).length), (13, nodesE T.flat), (14, .i (T.flat.length : Int)), (15, .i (i : Int))], [(1005, .rz (allK T.flat i).length 4 (ndF (allK T.flat i)) 50 0)]⟩, fun i => i ≤ T.flat.length, fun i => T.flat.length - i, 0, by omega, ?_, fun i hx1 => ?_⟩
    · skip
      repeat (refine Ob.mk ?_ ?_; focus (first | (exact fun _ _ _ _ => rfl) | (exact fun a ha => absurd ha (Nat.not_lt_zero a)) | (exact Eq.refl _) | omega))
      trivial
    refine ⟨fun h2 => ?_, fun h2 => ?_⟩
    · skip
      have c2 := h2
      (simp only [Bool.not_eq_true', Bool.not_eq_false', Bool.not_true, Bool.not_false, Bool.and_eq_true, Bool.or_eq_true, Bool.and_eq_false_iff, Bool.or_eq_false_iff, Bool.not_not, beq_true, beq_false, decide_eq_true_eq, decide_eq_false_iff_not] at c2)
      have hi : i < T.flat.length := by omega
      have hK := allK_len T.flat i
      repeat (refine Ob.mk ?_ ?_; focus (first | assumption | omega))
      refine ⟨fun h3 => ?_, fun h3 => ?_⟩
      · skip
        have c3 := h3
        (simp only [Bool.not_eq_true', Bool.not_eq_false', Bool.not_true, Bool.not_false, Bool.and_eq_true, Bool.or_eq_true, Bool.and_eq_false_iff, Bool.or_eq_false_iff, Bool.not_not, beq_true, beq_false, decide_eq_true_eq, decide_eq_false_iff_not] at c3)
        have hA : allK T.flat (i + 1) = allK T.flat i ++ [⟨(nAt T.flat i).p, (nAt T.flat i).o, 1⟩] := allK_in h3
        have hLen : (allK T.flat (i + 1)).length = (allK T.flat i).length + 1 := by rw [hA, List.length_append]; rfl
        repeat (refine Ob.mk ?_ ?_; (focus (first | (exact Eq.refl _) | omega | (simp only [SrcE.len, Nat.zero_add, List.length_append, List.length_cons, List.length_nil]; omega))))
        refine ⟨i + 1, (by assumption), (by (simp only [SrcE.len, Nat.zero_add, List.length_append, List.length_cons, List.length_nil]; omega)), ?_⟩
        repeat (refine Ob.mk ?_ ?_; (focus (first | (rw [hLen]; done) | (rw [hA]; exact nd_snoc _ _ (fun j hj => by rcases (by omega : j = 0 ∨ j = 1 ∨ j = 2 ∨ j = 3) with rfl | rfl | rfl | rfl <;> exact Eq.refl _)) | (exact fun _ _ _ _ => rfl) | (exact Eq.refl _) | (exact Nat.le_of_ble_eq_true rfl) | (simp only [SrcE.len, Nat.zero_add, List.length_append, List.length_cons, List.length_nil]; omega))))
        trivial
      · skip
        have c3 := h3
        (simp only [Bool.not_eq_true', Bool.not_eq_false', Bool.not_true, Bool.not_false, Bool.and_eq_true, Bool.or_eq_true, Bool.and_eq_false_iff, Bool.or_eq_false_iff, Bool.not_not, beq_true, beq_false, decide_eq_true_eq, decide_eq_false_iff_not] at c3)
        have hA : allK T.flat (i + 1) = allK T.flat i := allK_out h3
        repeat (refine Ob.mk ?_ ?_; focus (omega))
        refine ⟨i + 1, (by assumption), (by (simp only [SrcE.len, Nat.zero_add, List.length_append, List.length_cons, List.length_nil]; omega)), ?_⟩
        repeat (refine Ob.mk ?_ ?_; (focus (first | (rw [hA]; done) | (rw [hA]; exact fun _ _ _ _ => rfl) | (exact fun _ _ _ _ => rfl) | (exact Eq.refl _) | omega)))
        trivial
    · skip
      have c2 := h2
      (simp only [Bool.not_eq_true', Bool.not_eq_false', Bool.not_true, Bool.not_false, Bool.and_eq_true, Bool.or_eq_true, Bool.and_eq_false_iff, Bool.or_eq_false_iff, Bool.not_not, beq_true, beq_false, decide_eq_true_eq, decide_eq_false_iff_not] at c2)
      have hi : i = T.flat.length := by have : i ≤ T.flat.length := hx1; omega
      subst hi
      have hK := allK_len T.flat T.flat.length
      repeat (refine Ob.mk ?_ ?_; focus (first | (exact fun _ _ _ _ => rfl) | (exact Eq.refl _)))
      trivial
theorem key_net {k : UInt32 × Int} (e : k = pkey (kp k)) : EV.agg [.u32 k.1, .i k.2] = netE (kp k) := by
  have e1 : k.1 = adr (kp k) := congrArg Prod.fst e
  have e2 : k.2 = ((kp k).length : Int) := congrArg Prod.snd e
  show EV.agg [.u32 k.1, .i k.2] = EV.agg [.u32 (adr (kp k)), .i ((kp k).length : Int)]
  rw [← e1, ← e2]
theorem cf_GetK {T : Tr} {k : UInt32 × Int} {y : List UInt8} (w : T.wf) (h1 : T.flat.length ≤ 1000) (hk : (kp k).length ≤ 32 ∧ k = pkey (kp k)) (h : T.has (kp k) y) : Cf Try.prog 10 [] [nodesE T.flat, .agg [.u32 k.1, .i k.2]] [] (.tup [.s y, .i 0]) := by
  have := cf_Get w h1 hk.1
  rw [get_in w h] at this
  rw [key_net hk.2]; exact this
theorem cf_nHasK {k : UInt32 × Int} {x : UInt32} (hk : (kp k).length ≤ 32 ∧ k = pkey (kp k)) : Cf Try.prog 8 [] [.agg [.u32 k.1, .i k.2], .u32 x] [] (.b (decide (kp k <+: pathN x.toNat 32))) := by
  rw [key_net hk.2]; exact cf_nHas hk.1
theorem cf_sideA {p q : List Bool} {b : Bool} (h : p.length < 32) (hq : q.length = 32) (hb : bitAt q p.length = b) : Cf Try.prog 22 [] [netE p, .agg [.u32 (adr q), .i 32]] [] (.i (bif b then 1 else 0)) := by
  have := cf_side h hb
  have e : netE q = .agg [.u32 (adr q), .i 32] := by show EV.agg [.u32 (adr q), .i (q.length : Int)] = _; rw [hq]; rfl
  rw [e] at this; exact this
theorem cf_nHasQ {p q : List Bool} (hp : p.length ≤ 32) (hq : q.length = 32) : Cf Try.prog 8 [] [netE p, .u32 (adr q)] [] (.b (decide (p <+: q))) := by
  have := cf_nHas (x := adr q) hp
  have e : pathN (adr q).toNat 32 = q := adr_inj (by rw [pathN_len, hq]) (by rw [pathN_len]; decide) (adr_path (adr q) (by decide) (by rw [← hq]; exact adr_valid (by omega)))
  rw [e] at this; exact this
theorem one_eq {p q : List Bool} (hp : p.length ≤ 32) (hq : q.length = 32) (h : (decide (adr p = adr q) && decide ((p.length : Int) = 32)) = true) : p = q := by
  rw [Bool.and_eq_true, decide_eq_true_eq, decide_eq_true_eq] at h
  exact adr_inj (by omega) hp h.1
theorem one_ne {p q : List Bool} (hq : q.length = 32) (h : (decide (adr p = adr q) && decide ((p.length : Int) = 32)) = false) : p ≠ q := by
  rintro rfl
  rw [decide_eq_true rfl, decide_eq_true (by omega)] at h; cases h
theorem res_b {l : List UInt8} {r : List UInt8} (h : r = l) : r = l := h
set_option maxRecDepth 100000 in
set_option maxHeartbeats 4000000 in
theorem cf_FindNilO {q : List Bool} (hq : q.length = 32) : Cf Try.prog 9 [] [nodesE [], .u32 (adr q)] [] (.tup [.s [], .i 11]) := by
  refine Cf.introR tabT {} (DR _ _ _ tabT {}) (by kernel_rfl) tab_ok Try.func9 Try.ntmps9 rfl rfl (DR_ok tab_ok (by kernel_rfl)) (by kernel_rfl) ?_
  refine ⟨_, _, _, _, (cf_Chk (T := .nil) trivial (by decide)), ?_⟩
  repeat (refine Ob.mk ?_ ?_; (focus (first | (exact Eq.refl _) | (simp only [SrcE.len, Nat.zero_add, List.length_append, List.length_cons, List.length_nil]; omega))))
  refine ⟨fun h1 => ?_, fun h1 => ?_⟩
  · skip
    (simp only [Int.reduceToNat, UInt8.reduceOfNat] at h1)
    have c1 := h1
    (simp only [Bool.not_eq_true', Bool.not_eq_false', Bool.not_true, Bool.not_false, Bool.and_eq_true, Bool.or_eq_true, Bool.and_eq_false_iff, Bool.or_eq_false_iff, Bool.not_not, beq_true, beq_false, decide_eq_true_eq, decide_eq_false_iff_not] at c1)
    exact absurd (show false = true from h1) (by decide)
  · skip
    (simp only [Int.reduceToNat, UInt8.reduceOfNat] at h1)
    have c1 := h1
    (simp only [Bool.not_eq_true', Bool.not_eq_false', Bool.not_true, Bool.not_false, Bool.and_eq_true, Bool.or_eq_true, Bool.and_eq_false_iff, Bool.or_eq_false_iff, Bool.not_not, beq_true, beq_false, decide_eq_true_eq, decide_eq_false_iff_not] at c1)
    refine ⟨_, _, _, _, cf_treeNilO, ?_⟩
    repeat (refine Ob.mk ?_ ?_; (focus (first | (exact Eq.refl _) | (simp only [SrcE.len, Nat.zero_add, List.length_append, List.length_cons, List.length_nil]; omega))))
    refine ⟨Unit, fun t => ⟨[(1, .u32 (adr q)), (7, .s []), (8, .own 1008 0), (9, .v (.pointer none))], [(1008, .box [.u32 (adr q), .i 32] 31)]⟩, fun t => True, fun t => 0, (), trivial, ?_, fun t hx1 => ?_⟩
    · skip
      repeat (refine Ob.mk ?_ ?_; focus ((exact Eq.refl _)))
      trivial
    repeat (refine Ob.mk ?_ ?_; focus ((exact Eq.refl _)))
    refine gx (fun hc => (show Cf Try.prog 8 [] [.any, .u32 (adr q)] [] (.b false) from absurd (show false = true from hc) (by decide))) (fun hk => ⟨hk, ?_⟩)
    repeat (refine Ob.mk ?_ ?_; (focus (first | (intro _; exact Eq.refl _) | (exact fun hg => beq_t hg))))
    refine ⟨fun h2 => ?_, fun h2 => ?_⟩
    · skip
      have c2 := h2
      (simp only [Bool.not_eq_true', Bool.not_eq_false', Bool.not_true, Bool.not_false, Bool.and_eq_true, Bool.or_eq_true, Bool.and_eq_false_iff, Bool.or_eq_false_iff, Bool.not_not, beq_true, beq_false, decide_eq_true_eq, decide_eq_false_iff_not] at c2)
      exact absurd (show false = true from h2) (by decide)
    · skip
      have c2 := h2
      (simp only [Bool.not_eq_true', Bool.not_eq_false', Bool.not_true, Bool.not_false, Bool.and_eq_true, Bool.or_eq_true, Bool.and_eq_false_iff, Bool.or_eq_false_iff, Bool.not_not, beq_true, beq_false, decide_eq_true_eq, decide_eq_false_iff_not] at c2)
      refine ⟨fun h3 => ?_, fun h3 => ?_⟩
      · skip
        (simp only [Int.reduceToNat, UInt8.reduceOfNat] at h3)
        have c3 := h3
        (simp only [Bool.not_eq_true', Bool.not_eq_false', Bool.not_true, Bool.not_false, Bool.and_eq_true, Bool.or_eq_true, Bool.and_eq_false_iff, Bool.or_eq_false_iff, Bool.not_not, beq_true, beq_false, decide_eq_true_eq, decide_eq_false_iff_not] at c3)
        repeat (refine Ob.mk ?_ ?_; focus ((exact Eq.refl _)))
        trivial
      · skip
        (simp only [Int.reduceToNat, UInt8.reduceOfNat] at h3)
        have c3 := h3
        (simp only [Bool.not_eq_true', Bool.not_eq_false', Bool.not_true, Bool.not_false, Bool.and_eq_true, Bool.or_eq_true, Bool.and_eq_false_iff, Bool.or_eq_false_iff, Bool.not_not, beq_true, beq_false, decide_eq_true_eq, decide_eq_false_iff_not] at c3)
        exact absurd (show true = false from h3) (by decide)
set_option maxRecDepth 100000 in
set_option maxHeartbeats 4000000 in
theorem cf_FindO {p0 q : List Bool} {o0 : List UInt8} {l0 r0 T : Tr} {F : List UInt8} (hT : T = .node p0 o0 l0 r0) (w : T.wf) (h1 : T.flat.length ≤ 1000) (hq : q.length = 32) (hF : F = findT T q []) : Cf Try.prog 9 [] [nodesE T.flat, .u32 (adr q)] [] (.tup [.s F, .i (bif decide (F = []) then 11 else 0)]) := by
  refine Cf.introR tabT {} (DR _ _ _ tabT {}) (by kernel_rfl) tab_ok Try.func9 Try.ntmps9 rfl rfl (DR_ok tab_ok (by kernel_rfl)) (by kernel_rfl) ?_
  refine ⟨_, _, _, _, (cf_Chk w (by omega)), ?_⟩
  repeat (refine Ob.mk ?_ ?_; (focus (first | (exact Eq.refl _) | (intro hg; ((intro hq; ((simp_all; done))))))))
  refine ⟨fun h1 => ?_, fun h1 => ?_⟩
  · skip
    (simp only [Int.reduceToNat, UInt8.reduceOfNat] at h1)
    have c1 := h1
    (simp only [Bool.not_eq_true', Bool.not_eq_false', Bool.not_true, Bool.not_false, Bool.and_eq_true, Bool.or_eq_true, Bool.and_eq_false_iff, Bool.or_eq_false_iff, Bool.not_not, beq_true, beq_false, decide_eq_true_eq, decide_eq_false_iff_not] at c1)
    exact absurd (show false = true from h1) (by decide)
  · skip
    (simp only [Int.reduceToNat, UInt8.reduceOfNat] at h1)
    have c1 := h1
    (simp only [Bool.not_eq_true', Bool.not_eq_false', Bool.not_true, Bool.not_false, Bool.and_eq_true, Bool.or_eq_true, Bool.and_eq_false_iff, Bool.or_eq_false_iff, Bool.not_not, beq_true, beq_false, decide_eq_true_eq, decide_eq_false_iff_not] at c1)
    refine ⟨_, _, _, _, (hT ▸ cf_tree w (by omega)), ?_⟩
    repeat (refine Ob.mk ?_ ?_; (focus (first | (intro hg; ((intro hq; ((simp_all; done))))) | (simp_all; done))))
    refine ⟨Tr × List UInt8, fun z => ⟨[(1, .u32 (adr q)), (7, .s z.2), (8, .own 1008 0), (9, z.1.pe)], [(1008, .box [.u32 (adr q), .i 32] 31)]⟩, fun z => z.1.wf ∧ findT z.1 q z.2 = F, fun z => z.1.flat.length, (.node p0 o0 l0 r0, []), (by rw [hF, ← hT]; exact ⟨w, rfl⟩), ?_, fun z hx1 => ?_⟩
    · skip
      repeat (refine Ob.mk ?_ ?_; focus ((exact Eq.refl _)))
      trivial
    rcases z with ⟨_ | ⟨p, o, l, r⟩, acc⟩
    · skip
      have hS : F = acc := hx1.2.symm
      repeat (refine Ob.mk ?_ ?_; focus ((exact Eq.refl _)))
      refine gx (fun hc => (show Cf Try.prog 8 [] [.any, .u32 (adr q)] [] (.b false) from absurd (show false = true from hc) (by decide))) (fun hk => ⟨hk, ?_⟩)
      repeat (refine Ob.mk ?_ ?_; (focus (first | (intro _; exact Eq.refl _) | (exact fun hg => beq_t hg))))
      refine ⟨fun h2 => ?_, fun h2 => ?_⟩
      · skip
        have c2 := h2
        (simp only [Bool.not_eq_true', Bool.not_eq_false', Bool.not_true, Bool.not_false, Bool.and_eq_true, Bool.or_eq_true, Bool.and_eq_false_iff, Bool.or_eq_false_iff, Bool.not_not, beq_true, beq_false, decide_eq_true_eq, decide_eq_false_iff_not] at c2)
        exact absurd (show false = true from h2) (by decide)
      · skip
        have c2 := h2
        (simp only [Bool.not_eq_true', Bool.not_eq_false', Bool.not_true, Bool.not_false, Bool.and_eq_true, Bool.or_eq_true, Bool.and_eq_false_iff, Bool.or_eq_false_iff, Bool.not_not, beq_true, beq_false, decide_eq_true_eq, decide_eq_false_iff_not] at c2)
        refine ⟨fun h3 => ?_, fun h3 => ?_⟩
        · skip
          (simp only [Int.reduceToNat, UInt8.reduceOfNat] at h3)
          have c3 := h3
          (simp only [Bool.not_eq_true', Bool.not_eq_false', Bool.not_true, Bool.not_false, Bool.and_eq_true, Bool.or_eq_true, Bool.and_eq_false_iff, Bool.or_eq_false_iff, Bool.not_not, beq_true, beq_false, decide_eq_true_eq, decide_eq_false_iff_not] at c3)
          have hZ : F = [] := by rw [hS]; simpa using h3
          repeat (refine Ob.mk ?_ ?_; (focus (first | (rw [hZ]; done) | (rw [hZ]; rfl))))
          trivial
        · skip
          (simp only [Int.reduceToNat, UInt8.reduceOfNat] at h3)
          have c3 := h3
          (simp only [Bool.not_eq_true', Bool.not_eq_false', Bool.not_true, Bool.not_false, Bool.and_eq_true, Bool.or_eq_true, Bool.and_eq_false_iff, Bool.or_eq_false_iff, Bool.not_not, beq_true, beq_false, decide_eq_true_eq, decide_eq_false_iff_not] at c3)
          have hZ : ¬ F = [] := by rw [hS]; simpa using h3
          repeat (refine Ob.mk ?_ ?_; (focus (first | (rw [hS]; done) | (rw [hS, decide_eq_false (hS ▸ hZ)]; rfl))))
          trivial
    · skip
      obtain ⟨wt, hs⟩ := hx1
      have hp : p.length ≤ 32 := wt.1
      repeat (refine Ob.mk ?_ ?_; (focus (((intro _; exact Eq.refl _)))))
      refine gx2 (cf_nHasQ hp hq) (fun hk => ⟨fun _ => hk, ?_⟩)
      repeat (refine Ob.mk ?_ ?_; (focus (((intro _; exact Eq.refl _)))))
      refine ⟨fun h2 => ?_, fun h2 => ?_⟩
      · skip
        have c2 := h2
        (simp only [Bool.not_eq_true', Bool.not_eq_false', Bool.not_true, Bool.not_false, Bool.and_eq_true, Bool.or_eq_true, Bool.and_eq_false_iff, Bool.or_eq_false_iff, Bool.not_not, beq_true, beq_false, decide_eq_true_eq, decide_eq_false_iff_not] at c2)
        have hpre : p <+: q := by simpa using h2
        refine ⟨fun h3 => ?_, fun h3 => ?_⟩
        · skip
          have c3 := h3
          (simp only [Bool.not_eq_true', Bool.not_eq_false', Bool.not_true, Bool.not_false, Bool.and_eq_true, Bool.or_eq_true, Bool.and_eq_false_iff, Bool.or_eq_false_iff, Bool.not_not, beq_true, beq_false, decide_eq_true_eq, decide_eq_false_iff_not] at c3)
          have hA : (if o = [] then acc else o) = o := if_neg (by simpa using h3)
          refine ⟨[0, 1, 3, 7, 0, 31], by kernel_rfl, ?_⟩
          refine ⟨fun h4 => ?_, fun h4 => ?_⟩
          · skip
            have c4 := h4
            (simp only [Bool.not_eq_true', Bool.not_eq_false', Bool.not_true, Bool.not_false, Bool.and_eq_true, Bool.or_eq_true, Bool.and_eq_false_iff, Bool.or_eq_false_iff, Bool.not_not, beq_true, beq_false, decide_eq_true_eq, decide_eq_false_iff_not] at c4)
            have he := one_eq hp hq h4
            subst he
            have hS := hs.symm.trans (find_end (p := p) (o := o) (l := l) (r := r) (acc := acc))
            rw [hA] at hS
            refine ⟨fun h5 => ?_, fun h5 => ?_⟩
            · skip
              have c5 := h5
              (simp only [Bool.not_eq_true', Bool.not_eq_false', Bool.not_true, Bool.not_false, Bool.and_eq_true, Bool.or_eq_true, Bool.and_eq_false_iff, Bool.or_eq_false_iff, Bool.not_not, beq_true, beq_false, decide_eq_true_eq, decide_eq_false_iff_not] at c5)
              have hZ : F = [] := by rw [hS]; simpa using h5
              repeat (refine Ob.mk ?_ ?_; (focus (first | (rw [hZ]; done) | (rw [hZ]; rfl))))
              trivial
            · skip
              have c5 := h5
              (simp only [Bool.not_eq_true', Bool.not_eq_false', Bool.not_true, Bool.not_false, Bool.and_eq_true, Bool.or_eq_true, Bool.and_eq_false_iff, Bool.or_eq_false_iff, Bool.not_not, beq_true, beq_false, decide_eq_true_eq, decide_eq_false_iff_not] at c5)
              have hZ : ¬ F = [] := by rw [hS]; simpa using h5
              repeat (refine Ob.mk ?_ ?_; (focus (first | (rw [hS]; done) | (rw [hS, decide_eq_false (hS ▸ hZ)]; rfl))))
              trivial
          · skip
            have c4 := h4
            (simp only [Bool.not_eq_true', Bool.not_eq_false', Bool.not_true, Bool.not_false, Bool.and_eq_true, Bool.or_eq_true, Bool.and_eq_false_iff, Bool.or_eq_false_iff, Bool.not_not, beq_true, beq_false, decide_eq_true_eq, decide_eq_false_iff_not] at c4)
            have hne := one_ne hq h4
            have hl : p.length < 32 := by have := (pre_bit hpre hne).length_le; simp at this; omega
            rcases Bool.eq_false_or_eq_true (bitAt q p.length) with hb | hb; rcases r with _ | ⟨rp, ro, rl, rr⟩; rotate_left 2; rcases l with _ | ⟨lp, lo, ll, lr⟩
            · skip
              refine ⟨[0, 0, 2, 6, 14, 0, 62, 1, 129, 511, 1023, 2047], by kernel_rfl, ?_⟩
              refine ⟨_, _, _, _, (cf_sideA hl hq hb), ?_⟩
              repeat (refine Ob.mk ?_ ?_; (focus (first | (exact Eq.refl _) | (simp [SrcE.len]; done))))
              have hk : (Tr.nil).wf ∧ findT (Tr.nil) q (if o = [] then acc else o) = F := ⟨(by exact wt.2.2.2.2.1), (by rw [← hs, find_step hpre hne hb]; rfl)⟩
              rw [hA] at hk
              refine ⟨(Tr.nil, _), (by assumption), (by (simp only [flat_len]; omega)), ?_⟩
              repeat (refine Ob.mk ?_ ?_; focus ((exact Eq.refl _)))
              trivial
            · skip
              refine ⟨[0, 0, 2, 6, 14, 0, 62, 1, 129, 511, 1023, 2047], by kernel_rfl, ?_⟩
              refine ⟨_, _, _, _, (cf_sideA hl hq hb), ?_⟩
              repeat (refine Ob.mk ?_ ?_; (focus (first | (exact Eq.refl _) | (simp [SrcE.len]; done))))
              have hk : ((Tr.node lp lo ll lr)).wf ∧ findT ((Tr.node lp lo ll lr)) q (if o = [] then acc else o) = F := ⟨(by exact wt.2.2.2.2.1), (by rw [← hs, find_step hpre hne hb]; rfl)⟩
              rw [hA] at hk
              refine ⟨((Tr.node lp lo ll lr), _), (by assumption), (by (simp only [flat_len]; omega)), ?_⟩
              repeat (refine Ob.mk ?_ ?_; focus ((exact Eq.refl _)))
              trivial
            · skip
              refine ⟨[0, 0, 2, 6, 14, 0, 62, 1, 129, 511, 1023, 2047], by kernel_rfl, ?_⟩
              refine ⟨_, _, _, _, (cf_sideA hl hq hb), ?_⟩
              repeat (refine Ob.mk ?_ ?_; (focus (first | (exact Eq.refl _) | (simp [SrcE.len]; done))))
              have hk : (Tr.nil).wf ∧ findT (Tr.nil) q (if o = [] then acc else o) = F := ⟨(by exact wt.2.2.2.2.2), (by rw [← hs, find_step hpre hne hb]; rfl)⟩
              rw [hA] at hk
              refine ⟨(Tr.nil, _), (by assumption), (by (simp only [flat_len]; omega)), ?_⟩
              repeat (refine Ob.mk ?_ ?_; focus ((exact Eq.refl _)))
              trivial
            · skip
              refine ⟨[0, 0, 2, 6, 14, 0, 62, 1, 129, 511, 1023, 2047], by kernel_rfl, ?_⟩
              refine ⟨_, _, _, _, (cf_sideA hl hq hb), ?_⟩
              repeat (refine Ob.mk ?_ ?_; (focus (first | (exact Eq.refl _) | (simp [SrcE.len]; done))))
              have hk : ((Tr.node rp ro rl rr)).wf ∧ findT ((Tr.node rp ro rl rr)) q (if o = [] then acc else o) = F := ⟨(by exact wt.2.2.2.2.2), (by rw [← hs, find_step hpre hne hb]; rfl)⟩
              rw [hA] at hk
              refine ⟨((Tr.node rp ro rl rr), _), (by assumption), (by (simp only [flat_len]; omega)), ?_⟩
              repeat (refine Ob.mk ?_ ?_; focus ((exact Eq.refl _)))
              trivial
        · skip
          have c3 := h3
          (simp only [Bool.not_eq_true', Bool.not_eq_false', Bool.not_true, Bool.not_false, Bool.and_eq_true, Bool.or_eq_true, Bool.and_eq_false_iff, Bool.or_eq_false_iff, Bool.not_not, beq_true, beq_false, decide_eq_true_eq, decide_eq_false_iff_not] at c3)
          have hA : (if o = [] then acc else o) = acc := if_pos (by simpa using h3)
          refine ⟨[0, 1, 3, 7, 0, 31], by kernel_rfl, ?_⟩
          refine ⟨fun h6 => ?_, fun h6 => ?_⟩
          · skip
            have c6 := h6
            (simp only [Bool.not_eq_true', Bool.not_eq_false', Bool.not_true, Bool.not_false, Bool.and_eq_true, Bool.or_eq_true, Bool.and_eq_false_iff, Bool.or_eq_false_iff, Bool.not_not, beq_true, beq_false, decide_eq_true_eq, decide_eq_false_iff_not] at c6)
            have he := one_eq hp hq h6
            subst he
            have hS := hs.symm.trans (find_end (p := p) (o := o) (l := l) (r := r) (acc := acc))
            rw [hA] at hS
            refine ⟨fun h7 => ?_, fun h7 => ?_⟩
            · skip
              (simp only [Int.reduceToNat, UInt8.reduceOfNat] at h7)
              have c7 := h7
              (simp only [Bool.not_eq_true', Bool.not_eq_false', Bool.not_true, Bool.not_false, Bool.and_eq_true, Bool.or_eq_true, Bool.and_eq_false_iff, Bool.or_eq_false_iff, Bool.not_not, beq_true, beq_false, decide_eq_true_eq, decide_eq_false_iff_not] at c7)
              have hZ : F = [] := by rw [hS]; simpa using h7
              repeat (refine Ob.mk ?_ ?_; (focus (first | (rw [hZ]; done) | (rw [hZ]; rfl))))
              trivial
            · skip
              (simp only [Int.reduceToNat, UInt8.reduceOfNat] at h7)
              have c7 := h7
              (simp only [Bool.not_eq_true', Bool.not_eq_false', Bool.not_true, Bool.not_false, Bool.and_eq_true, Bool.or_eq_true, Bool.and_eq_false_iff, Bool.or_eq_false_iff, Bool.not_not, beq_true, beq_false, decide_eq_true_eq, decide_eq_false_iff_not] at c7)
              have hZ : ¬ F = [] := by rw [hS]; simpa using h7
              repeat (refine Ob.mk ?_ ?_; (focus (first | (rw [hS]; done) | (rw [hS, decide_eq_false (hS ▸ hZ)]; rfl))))
              trivial
          · skip
            have c6 := h6
            (simp only [Bool.not_eq_true', Bool.not_eq_false', Bool.not_true, Bool.not_false, Bool.and_eq_true, Bool.or_eq_true, Bool.and_eq_false_iff, Bool.or_eq_false_iff, Bool.not_not, beq_true, beq_false, decide_eq_true_eq, decide_eq_false_iff_not] at c6)
            have hne := one_ne hq h6
            have hl : p.length < 32 := by have := (pre_bit hpre hne).length_le; simp at this; omega
            rcases Bool.eq_false_or_eq_true (bitAt q p.length) with hb | hb; rcases r with _ | ⟨rp, ro, rl, rr⟩; rotate_left 2; rcases l with _ | ⟨lp, lo, ll, lr⟩
            · skip
              refine ⟨[0, 0, 2, 6, 14, 0, 62, 1, 129, 511, 1023, 2047], by kernel_rfl, ?_⟩
              refine ⟨_, _, _, _, (cf_sideA hl hq hb), ?_⟩
              repeat (refine Ob.mk ?_ ?_; (focus (first | (exact Eq.refl _) | (simp [SrcE.len]; done))))
              have hk : (Tr.nil).wf ∧ findT (Tr.nil) q (if o = [] then acc else o) = F := ⟨(by exact wt.2.2.2.2.1), (by rw [← hs, find_step hpre hne hb]; rfl)⟩
              rw [hA] at hk
              refine ⟨(Tr.nil, _), (by assumption), (by (simp only [flat_len]; omega)), ?_⟩
              repeat (refine Ob.mk ?_ ?_; focus ((exact Eq.refl _)))
              trivial
            · skip
              refine ⟨[0, 0, 2, 6, 14, 0, 62, 1, 129, 511, 1023, 2047], by kernel_rfl, ?_⟩
              refine ⟨_, _, _, _, (cf_sideA hl hq hb), ?_⟩
              repeat (refine Ob.mk ?_ ?_; (focus (first | (exact Eq.refl _) | (simp [SrcE.len]; done))))
              have hk : ((Tr.node lp lo ll lr)).wf ∧ findT ((Tr.node lp lo ll lr)) q (if o = [] then acc else o) = F := ⟨(by exact wt.2.2.2.2.1), (by rw [← hs, find_step hpre hne hb]; rfl)⟩
              rw [hA] at hk
              refine ⟨((Tr.node lp lo ll lr), _), (by assumption), (by (simp only [flat_len]; omega)), ?_⟩
              repeat (refine Ob.mk ?_ ?_; focus ((exact Eq.refl _)))
              trivial
            · skip
              refine ⟨[0, 0, 2, 6, 14, 0, 62, 1, 129, 511, 1023, 2047], by kernel_rfl, ?_⟩
              refine ⟨_, _, _, _, (cf_sideA hl hq hb), ?_⟩
              repeat (refine Ob.mk ?_ ?_; (focus (first | (exact Eq.refl _) | (simp [SrcE.len]; done))))
              have hk : (Tr.nil).wf ∧ findT (Tr.nil) q (if o = [] then acc else o) = F := ⟨(by exact wt.2.2.2.2.2), (by rw [← hs, find_step hpre hne hb]; rfl)⟩
              rw [hA] at hk
              refine ⟨(Tr.nil, _), (by assumption), (by (simp only [flat_len]; omega)), ?_⟩
              repeat (refine Ob.mk ?_ ?_; focus ((exact Eq.refl _)))
              trivial
            · skip
              refine ⟨[0, 0, 2, 6, 14, 0, 62, 1, 129, 511, 1023, 2047], by kernel_rfl, ?_⟩
              refine ⟨_, _, _, _, (cf_sideA hl hq hb), ?_⟩
              repeat (refine Ob.mk ?_ ?_; (focus (first | (exact Eq.refl _) | (simp [SrcE.len]; done))))
              have hk : ((Tr.node rp ro rl rr)).wf ∧ findT ((Tr.node rp ro rl rr)) q (if o = [] then acc else o) = F := ⟨(by exact wt.2.2.2.2.2), (by rw [← hs, find_step hpre hne hb]; rfl)⟩
              rw [hA] at hk
              refine ⟨((Tr.node rp ro rl rr), _), (by assumption), (by (simp only [flat_len]; omega)), ?_⟩
              repeat (refine Ob.mk ?_ ?_; focus ((exact Eq.refl _)))
              trivial
      · skip
        have c2 := h2
        (simp only [Bool.not_eq_true', Bool.not_eq_false', Bool.not_true, Bool.not_false, Bool.and_eq_true, Bool.or_eq_true, Bool.and_eq_false_iff, Bool.or_eq_false_iff, Bool.not_not, beq_true, beq_false, decide_eq_true_eq, decide_eq_false_iff_not] at c2)
        have hS : F = acc := by rw [← hs]; exact find_out (by simpa using h2)
        refine ⟨fun h8 => ?_, fun h8 => ?_⟩
        · skip
          (simp only [Int.reduceToNat, UInt8.reduceOfNat] at h8)
          have c8 := h8
          (simp only [Bool.not_eq_true', Bool.not_eq_false', Bool.not_true, Bool.not_false, Bool.and_eq_true, Bool.or_eq_true, Bool.and_eq_false_iff, Bool.or_eq_false_iff, Bool.not_not, beq_true, beq_false, decide_eq_true_eq, decide_eq_false_iff_not] at c8)
          have hZ : F = [] := by rw [hS]; simpa using h8
          repeat (refine Ob.mk ?_ ?_; (focus (first | (rw [hZ]; done) | (rw [hZ]; rfl))))
          trivial
        · skip
          (simp only [Int.reduceToNat, UInt8.reduceOfNat] at h8)
          have c8 := h8
          (simp only [Bool.not_eq_true', Bool.not_eq_false', Bool.not_true, Bool.not_false, Bool.and_eq_true, Bool.or_eq_true, Bool.and_eq_false_iff, Bool.or_eq_false_iff, Bool.not_not, beq_true, beq_false, decide_eq_true_eq, decide_eq_false_iff_not] at c8)
          have hZ : ¬ F = [] := by rw [hS]; simpa using h8
          repeat (refine Ob.mk ?_ ?_; (focus (first | (rw [hS]; done) | (rw [hS, decide_eq_false (hS ▸ hZ)]; rfl))))
          trivial
theorem cf_Find {T : Tr} {x : UInt32} (w : T.wf) (h1 : T.flat.length ≤ 1000) : Cf Try.prog 9 [] [nodesE T.flat, .u32 x] [] (.tup [.s (findT T (pathN x.toNat 32) []), .i (bif decide (findT T (pathN x.toNat 32) [] = []) then 11 else 0)]) := by
  have e : adr (pathN x.toNat 32) = x := adr_path x (by decide) ⟨by decide, by decide, by simp; omega⟩
  have k : Cf Try.prog 9 [] [nodesE T.flat, .u32 (adr (pathN x.toNat 32))] [] (.tup [.s (findT T (pathN x.toNat 32) []), .i (bif decide (findT T (pathN x.toNat 32) [] = []) then 11 else 0)]) := by
    cases T with
    | nil => exact cf_FindNilO (pathN_len _ _)
    | node p o l r => exact cf_FindO rfl w h1 (pathN_len _ _) rfl
  rw [e] at k; exact k
end Go.Proofs.Ytcdoobkaobiacaa
