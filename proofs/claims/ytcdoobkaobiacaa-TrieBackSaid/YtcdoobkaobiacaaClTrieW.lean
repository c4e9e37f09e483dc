/- TrieOwns, TrieBack, TrieLongest: the walks of the statements' functions. -/
import Derived.Test.YtcdoobkaobiacaaCTrieW
import Derived.Test.YtcdoobkaobiacaaClTrieL
namespace Go.Proofs.Ytcdoobkaobiacaa
open Go.RowKit Tr
set_option linter.unusedVariables false
set_option linter.unusedSimpArgs false

set_option maxRecDepth 100000 in
set_option maxHeartbeats 4000000 in
theorem cf_TrieOwnsO {l : List RawS} {T : Tr} {es : NetMap} (hl : ∀ x ∈ l, x.inn) (hT : T = trL l (kMin l)) (he : es = mpL l (kMin l)) : Cf Try.prog 4 [] [rawsE l] [] (.b true) := by
  have R : Rel T es := by rw [hT, he]; exact relL l _
  have W := R.wf
  have hk : kMin l ≤ 16 := Nat.min_le_right _ _
  have hLen : T.flat.length ≤ 32 := by have := trL_len l (kMin l); rw [hT]; omega
  have hKo : KOk es := by rw [he]; exact kOk_L l _
  have hKn : KNd es := by rw [he]; exact kNd_L l _
  have hTree := cf_treeOf hl
  rw [← hT, ← he] at hTree
  have hAl : (allK T.flat T.flat.length).length = es.length := by rw [allK_all, R.len]
  refine Cf.introR tabT {} D0 (by kernel_rfl) tab_ok Try.func4 Try.ntmps4 rfl rfl (D0_ok) (by kernel_rfl) ?_
  refine ⟨_, _, _, _, hTree, ?_⟩
  repeat (refine Ob.mk ?_ ?_; (focus (first | (exact Eq.refl _) | (intro hg; ((intro hq; ((simp_all; done))))))))
  refine ⟨List Nat, fun s => ⟨[(3, nodesE T.flat), (4, .mref 1014060), (5, .b true), (19, .own 1019 0)], [(1014060, .mp es), (1019, .it 1014060 es.length s es.length)]⟩, fun s => s.Nodup ∧ ∀ i ∈ s, i < es.length, fun s => es.length - s.length, [], ⟨List.nodup_nil, fun i h => by cases h⟩, ?_, fun s hx1 => ?_⟩
  · skip
    repeat (refine Ob.mk ?_ ?_; (focus (first | (exact Eq.refl _) | (intro hg; ((intro hq; ((simp_all; done))))))))
    trivial
  repeat (refine Ob.mk ?_ ?_; focus ((exact ⟨rfl, rfl⟩)))
  refine ⟨fun ni hni hnn => ?_, fun hall => ?_⟩
  · skip
    refine ⟨fun h1 => ?_, fun h1 => ?_⟩
    · skip
      (simp only [Int.reduceToNat, UInt8.reduceOfNat] at h1)
      have c1 := h1
      repeat (refine Ob.mk ?_ ?_; focus (first | (exact Eq.refl _) | assumption))
      have hG := cf_GetK W (by omega) (eA_key hKo hni) (eA_has R hKo hKn hni)
      refine ⟨_, _, _, _, hG, ?_⟩
      repeat (refine Ob.mk ?_ ?_; (focus (first | (exact Eq.refl _) | (intro _; exact Eq.refl _) | (intro hg; ((intro hq; ((simp_all; done))))))))
      refine ⟨fun h2 => ?_, fun h2 => ?_⟩
      · skip
        (simp only [Int.reduceToNat, UInt8.reduceOfNat] at h2)
        have c2 := h2
        (simp only [Bool.not_eq_true', Bool.not_eq_false', Bool.not_true, Bool.not_false, Bool.and_eq_true, Bool.or_eq_true, Bool.and_eq_false_iff, Bool.or_eq_false_iff, Bool.not_not, beq_true, beq_false, decide_eq_true_eq, decide_eq_false_iff_not] at c2)
        exact absurd h2 (by simp)
      · skip
        (simp only [Int.reduceToNat, UInt8.reduceOfNat] at h2)
        have c2 := h2
        (simp only [Bool.not_eq_true', Bool.not_eq_false', Bool.not_true, Bool.not_false, Bool.and_eq_true, Bool.or_eq_true, Bool.and_eq_false_iff, Bool.or_eq_false_iff, Bool.not_not, beq_true, beq_false, decide_eq_true_eq, decide_eq_false_iff_not] at c2)
        have hn1 : (ni :: s).Nodup := List.nodup_cons.2 ⟨hnn, hx1.1⟩
        have hn2 : ∀ i ∈ ni :: s, i < es.length := fun i hi => by rcases List.mem_cons.1 hi with rfl | hi; exact hni; exact hx1.2 i hi
        have hn3 := nodup_le hn1 hn2
        have hn4 : (ni :: s).Nodup ∧ ∀ i ∈ ni :: s, i < es.length := ⟨hn1, hn2⟩
        refine ⟨ni :: s, (by assumption), (by (simp only [List.length_cons] at hn3 ⊢; omega)), ?_⟩
        repeat (refine Ob.mk ?_ ?_; (focus (first | (exact Eq.refl _) | (intro hg; ((intro hq; ((simp_all; done))))))))
        trivial
    · skip
      have c1 := h1
      exact absurd (show true = false from h1) (by decide)
  · skip
    refine ⟨fun h1 => ?_, fun h1 => ?_⟩
    · skip
      have c1 := h1
      exact absurd (show false = true from h1) (by decide)
    · skip
      (simp only [Int.reduceToNat, UInt8.reduceOfNat] at h1)
      have c1 := h1
      refine ⟨_, _, _, _, (cf_AllO W (by omega)), ?_⟩
      repeat (refine Ob.mk ?_ ?_; (focus (first | (rw [hAl]; simp) | (exact Eq.refl _) | (intro _; exact Eq.refl _) | (intro hg; ((intro hq; ((simp_all; done))))))))
      trivial
theorem cf_TrieOwns {l : List RawS} (hl : ∀ x ∈ l, x.inn) : Cf Try.prog 4 [] [rawsE l] [] (.b true) := cf_TrieOwnsO hl rfl rfl
theorem has_no {T : Tr} {es : NetMap} (R : Rel T es) {n : List Bool} (hn : n.length ≤ 32) (h : mpHas (pkey n) es = false) : ∀ y, ¬ T.has n y := fun y k => by
  have := (R.get n y hn).1 k
  unfold mpGet at this
  unfold mpHas at h
  cases hi : mpIdx (pkey n) es with
  | none => rw [hi] at this; cases this
  | some q => rw [hi] at h; cases h
set_option maxRecDepth 100000 in
set_option maxHeartbeats 4000000 in
theorem cf_TrieBackO {l : List RawS} {r : RawS} {T : Tr} {es : NetMap} {n : List Bool} {v : List UInt8} (hl : ∀ x ∈ l, x.inn) (hr : r.inn) (hT : T = trL l (kMin l)) (he : es = mpL l (kMin l)) (hn : n = rnet r) (hv : v = keyS 1) : Cf Try.prog 5 [] [rawsE l, .agg [.i r.k, .i r.a, .i r.b, .s r.s]] [] (.b true) := by
  have R : Rel T es := by rw [hT, he]; exact relL l _
  have W := R.wf
  have hk : kMin l ≤ 16 := Nat.min_le_right _ _
  have hLen : T.flat.length ≤ 32 := by have := trL_len l (kMin l); rw [hT]; omega
  have hPl := putT_len (T := T) (n := n) (o := v)
  have hn32 : n.length ≤ 32 := by rw [hn]; exact netP_len
  have hve : v ≠ [] := by rw [hv]; exact keyS_ne 1
  have hTree := cf_treeOf hl
  rw [← hT, ← he] at hTree
  have hNet := cf_kNet (s := r.s) hr.1 hr.2.1 hr.2.2.1
  rw [show netP r.k r.a r.b = n from hn.symm] at hNet
  have hKey := cf_Key (n := 1) ⟨by decide, by decide⟩
  rw [← hv] at hKey
  have WP := putT_wf W hn32 hve
  have hG := get_in WP ((putT_has (m := n) (y := v) W hve).2 (.inl ⟨rfl, rfl⟩))
  have hsl := strip_len (fun p _ => decide (p = n)) (T := putT T n v)
  have WS := back_wf W hn32 hve
  have hG2 := cf_Get WS (by omega) hn32
  rw [get_out WS back_out] at hG2
  have hQ := cf_ndEqO (L := T.flat) (by omega)
  refine Cf.introR tabT {} D0 (by kernel_rfl) tab_ok Try.func5 Try.ntmps5 rfl rfl (D0_ok) (by kernel_rfl) ?_
  refine ⟨_, _, _, _, hTree, ?_⟩
  repeat (refine Ob.mk ?_ ?_; (focus (first | (exact Eq.refl _) | (intro hg; ((intro hq; ((simp_all; done))))))))
  refine ⟨fun h1 => ?_, fun h1 => ?_⟩
  · skip
    have c1 := h1
    (simp only [Bool.not_eq_true', Bool.not_eq_false', Bool.not_true, Bool.not_false, Bool.and_eq_true, Bool.or_eq_true, Bool.and_eq_false_iff, Bool.or_eq_false_iff, Bool.not_not, beq_true, beq_false, decide_eq_true_eq, decide_eq_false_iff_not] at c1)
    exact absurd (show false = true from h1) (by decide)
  · skip
    have c1 := h1
    (simp only [Bool.not_eq_true', Bool.not_eq_false', Bool.not_true, Bool.not_false, Bool.and_eq_true, Bool.or_eq_true, Bool.and_eq_false_iff, Bool.or_eq_false_iff, Bool.not_not, beq_true, beq_false, decide_eq_true_eq, decide_eq_false_iff_not] at c1)
    refine ⟨_, _, _, _, hNet, ?_⟩
    repeat (refine Ob.mk ?_ ?_; focus ((exact Eq.refl _)))
    refine ⟨_, _, _, _, hKey, ?_⟩
    repeat (refine Ob.mk ?_ ?_; focus ((exact Eq.refl _)))
    refine ⟨_, _, _, _, (cf_Put (T := T) (n := n) (o := v) W hn32 hve (by omega)), ?_⟩
    repeat (refine Ob.mk ?_ ?_; (focus (first | (exact Eq.refl _) | (intro hg; ((intro hq; ((simp_all; done))))))))
    refine ⟨_, _, _, _, hNet, ?_⟩
    repeat (refine Ob.mk ?_ ?_; focus ((exact Eq.refl _)))
    refine ⟨_, _, _, _, (cf_DropO (T := putT T n v) (n := n) WP (by omega) hn32 hG), ?_⟩
    repeat (refine Ob.mk ?_ ?_; (focus (first | (exact Eq.refl _) | (intro hg; ((intro hq; ((simp_all; done))))))))
    refine ⟨_, _, _, _, hNet, ?_⟩
    repeat (refine Ob.mk ?_ ?_; focus ((exact Eq.refl _)))
    refine ⟨fun h2 => ?_, fun h2 => ?_⟩
    · skip
      have c2 := h2
      refine ⟨_, _, _, _, hNet, ?_⟩
      repeat (refine Ob.mk ?_ ?_; focus ((exact Eq.refl _)))
      refine ⟨_, _, _, _, hG2, ?_⟩
      repeat (refine Ob.mk ?_ ?_; (focus (first | (exact Eq.refl _) | (intro _; exact Eq.refl _) | (intro hg; ((intro hq; ((simp_all; done))))))))
      refine gx2 (cf_Chk WS (by omega)) (fun hk => ⟨fun _ => hk, ?_⟩)
      repeat (refine Ob.mk ?_ ?_; (focus (first | (exact Eq.refl _) | (intro _; exact Eq.refl _) | (intro hg; ((intro hq; ((simp_all; done))))))))
      trivial
    · skip
      have c2 := h2
      have hS := back_same W hn32 hve (has_no R hn32 h2)
      rw [hS.symm] at hQ
      have hQ2 : Cf Try.prog 16 [] [nodesE T.flat, nodesE (stripT (fun p _ => decide (p = n)) (putT T n v)).flat] [] (.b true) := by rw [hS]; exact cf_ndEqO (by omega)
      repeat (refine Ob.mk ?_ ?_; (focus (((intro _; exact Eq.refl _)))))
      refine gx2 (hQ2) (fun hk => ⟨fun _ => hk, ?_⟩)
      repeat (refine Ob.mk ?_ ?_; (focus (first | (exact Eq.refl _) | (intro _; exact Eq.refl _) | (intro hg; ((intro hq; ((simp_all; done))))))))
      trivial
theorem cf_TrieBack {l : List RawS} {r : RawS} (hl : ∀ x ∈ l, x.inn) (hr : r.inn) : Cf Try.prog 5 [] [rawsE l, .agg [.i r.k, .i r.a, .i r.b, .s r.s]] [] (.b true) := cf_TrieBackO hl hr rfl rfl rfl rfl
theorem best_in {es : NetMap} {q : List Bool} {i : Nat} {s : List Nat} (h : (decide (kp (eA es i).1 <+: q) && decide ((best es q s).2 < (eA es i).1.2)) = true) : best es q (i :: s) = ((eA es i).2, (eA es i).1.2) := by rw [best, h]; rfl
theorem best_out {es : NetMap} {q : List Bool} {i : Nat} {s : List Nat} (h : (decide (kp (eA es i).1 <+: q) && decide ((best es q s).2 < (eA es i).1.2)) = false) : best es q (i :: s) = best es q s := by rw [best, h]; rfl
theorem x3 {X : List UInt32} {a b c : UInt32} (hX : X = [a, b, c]) {m : List EV} (h0 : m.getD 0 .any = .u32 a) (h1 : m.getD 1 .any = .u32 b) (h2 : m.getD 2 .any = .u32 c) : ∀ i, i < 3 → ∀ j, j < 1 → m.getD (i * 1 + j) .any = (fun u j => EV.u32 (X.getD u 0)) i j := by
  intro i hi j hj
  obtain rfl : j = 0 := by omega
  subst hX
  match i, hi with
  | 0, _ => exact h0
  | 1, _ => exact h1
  | 2, _ => exact h2
theorem long_b {f w : List UInt8} {b : Int} (h1 : f = w) (h2 : 0 ≤ b ↔ f ≠ []) : ¬ (!decide (f = w) || !decide ((bif decide (f = []) then (11 : Int) else 0) = 0) == decide (0 ≤ b)) = true := by
  subst h1
  by_cases hz : f = []
  · have hb : ¬ 0 ≤ b := fun k => (h2.1 k) hz
    rw [decide_eq_true rfl, decide_eq_true hz, decide_eq_false hb]; decide
  · have hb : 0 ≤ b := h2.2 hz
    rw [decide_eq_true rfl, decide_eq_false hz, decide_eq_true hb]; decide
set_option maxRecDepth 100000 in
set_option maxHeartbeats 4000000 in
theorem cf_TrieLongestO {l : List RawS} {r : RawS} {a : UInt32} {T : Tr} {es : NetMap} {n : List Bool} {X : List UInt32} (hl : ∀ x ∈ l, x.inn) (hr : r.inn) (hT : T = trL l (kMin l)) (he : es = mpL l (kMin l)) (hn : n = rnet r) (hX : X = [a, adr n, adr n + 1]) : Cf Try.prog 3 [] [rawsE l, .u32 a, .agg [.i r.k, .i r.a, .i r.b, .s r.s]] [] (.b true) := by
  have R : Rel T es := by rw [hT, he]; exact relL l _
  have W := R.wf
  have hk : kMin l ≤ 16 := Nat.min_le_right _ _
  have hLen : T.flat.length ≤ 32 := by have := trL_len l (kMin l); rw [hT]; omega
  have hn32 : n.length ≤ 32 := by rw [hn]; exact netP_len
  have hKo : KOk es := by rw [he]; exact kOk_L l _
  have hKn : KNd es := by rw [he]; exact kNd_L l _
  have hTree := cf_treeOf hl
  rw [← hT, ← he] at hTree
  have hNet := cf_kNet (s := r.s) hr.1 hr.2.1 hr.2.2.1
  rw [show netP r.k r.a r.b = n from hn.symm] at hNet
  refine Cf.introR tabT {} (DR _ _ _ tabT {}) (by kernel_rfl) tab_ok Try.func3 Try.ntmps3 rfl rfl (DR_ok tab_ok (by kernel_rfl)) (by kernel_rfl) ?_
  refine ⟨_, _, _, _, hTree, ?_⟩
  repeat (refine Ob.mk ?_ ?_; (focus (first | (exact Eq.refl _) | (intro hg; ((intro hq; ((simp_all; done))))))))
  refine ⟨fun h1 => ?_, fun h1 => ?_⟩
  · skip
    have c1 := h1
    (simp only [Bool.not_eq_true', Bool.not_eq_false', Bool.not_true, Bool.not_false, Bool.and_eq_true, Bool.or_eq_true, Bool.and_eq_false_iff, Bool.or_eq_false_iff, Bool.not_not, beq_true, beq_false, decide_eq_true_eq, decide_eq_false_iff_not] at c1)
    exact absurd (show false = true from h1) (by decide)
  · skip
    have c1 := h1
    (simp only [Bool.not_eq_true', Bool.not_eq_false', Bool.not_true, Bool.not_false, Bool.and_eq_true, Bool.or_eq_true, Bool.and_eq_false_iff, Bool.or_eq_false_iff, Bool.not_not, beq_true, beq_false, decide_eq_true_eq, decide_eq_false_iff_not] at c1)
    refine ⟨[0, 0, 2, 6, 0, 22, 54, 118, 255, 511, 0], by kernel_rfl, ?_⟩
    refine ⟨_, _, _, _, hNet, ?_⟩
    repeat (refine Ob.mk ?_ ?_; focus ((exact Eq.refl _)))
    refine ⟨_, _, _, _, hNet, ?_⟩
    repeat (refine Ob.mk ?_ ?_; focus ((exact Eq.refl _)))
    refine ⟨Nat, fun i => ⟨[(7, nodesE T.flat), (8, .mref 1020060), (34, .osl 1034 3), (35, .i 3), (36, .i (i : Int))], [(1020060, .mp es), (1034, .rz 3 1 (fun u j => .u32 (X.getD u 0)) 23 0)]⟩, fun i => i ≤ 3, fun i => 3 - i, 0, by omega, ?_, fun i hx1 => ?_⟩
    · skip
      repeat (refine Ob.mk ?_ ?_; (focus (first | (exact x3 hX (Eq.refl _) (Eq.refl _) (Eq.refl _)) | (exact Eq.refl _) | omega | (intro hg; ((intro hq; ((simp_all; done))))))))
      trivial
    refine ⟨fun h2 => ?_, fun h2 => ?_⟩
    · skip
      have c2 := h2
      (simp only [Bool.not_eq_true', Bool.not_eq_false', Bool.not_true, Bool.not_false, Bool.and_eq_true, Bool.or_eq_true, Bool.and_eq_false_iff, Bool.or_eq_false_iff, Bool.not_not, beq_true, beq_false, decide_eq_true_eq, decide_eq_false_iff_not] at c2)
      repeat (refine Ob.mk ?_ ?_; focus (omega))
      refine ⟨List Nat, fun s => ⟨[(7, nodesE T.flat), (8, .mref 1020060), (11, .u32 (X.getD i 0)), (12, .s (best es (pathN (X.getD i 0).toNat 32) s).1), (13, .i (best es (pathN (X.getD i 0).toNat 32) s).2), (34, .osl 1034 3), (35, .i 3), (36, .i (i : Int)), (41, .own 1041 0)], [(1020060, .mp es), (1034, .rz 3 1 (fun u j => .u32 (X.getD u 0)) 23 0), (1041, .it 1020060 es.length s es.length)]⟩, fun s => s.Nodup ∧ ∀ i ∈ s, i < es.length, fun s => es.length - s.length, [], ⟨List.nodup_nil, fun i h => by cases h⟩, ?_, fun s hx2 => ?_⟩
      · skip
        repeat (refine Ob.mk ?_ ?_; (focus (first | (exact Eq.refl _) | omega | (intro hg; ((intro hq; ((simp_all; done))))))))
        trivial
      repeat (refine Ob.mk ?_ ?_; focus ((exact ⟨rfl, rfl⟩)))
      refine ⟨fun ni hni hnn => ?_, fun hall => ?_⟩
      · skip
        refine ⟨fun h3 => ?_, fun h3 => ?_⟩
        · skip
          (simp only [Int.reduceToNat, UInt8.reduceOfNat] at h3)
          have c3 := h3
          repeat (refine Ob.mk ?_ ?_; focus (first | (exact Eq.refl _) | assumption))
          refine ⟨_, _, _, _, (cf_nHasK (k := (eA es ni).1) (x := X.getD i 0) (eA_key hKo hni)), ?_⟩
          repeat (refine Ob.mk ?_ ?_; focus (first | (exact Eq.refl _) | (exact fun hg => beq_t hg) | (exact fun hg => hg)))
          refine ⟨fun h4 => ?_, fun h4 => ?_⟩
          · skip
            have c4 := h4
            (simp only [Bool.not_eq_true', Bool.not_eq_false', Bool.not_true, Bool.not_false, Bool.and_eq_true, Bool.or_eq_true, Bool.and_eq_false_iff, Bool.or_eq_false_iff, Bool.not_not, beq_true, beq_false, decide_eq_true_eq, decide_eq_false_iff_not] at c4)
            have hB := best_in (es := es) (q := pathN (X.getD i 0).toNat 32) (i := ni) (s := s) h4
            refine ⟨[0, 0, 2, 1, 15], by kernel_rfl, ?_⟩
            have hn1 : (ni :: s).Nodup := List.nodup_cons.2 ⟨hnn, hx2.1⟩
            have hn2 : ∀ i ∈ ni :: s, i < es.length := fun i hi => by rcases List.mem_cons.1 hi with rfl | hi; exact hni; exact hx2.2 i hi
            have hn3 := nodup_le hn1 hn2
            have hn4 : (ni :: s).Nodup ∧ ∀ i ∈ ni :: s, i < es.length := ⟨hn1, hn2⟩
            refine ⟨ni :: s, (by assumption), (by (simp only [List.length_cons] at hn3 ⊢; omega)), ?_⟩
            repeat (refine Ob.mk ?_ ?_; (focus (first | (rw [hB]; done) | (exact Eq.refl _) | omega | (intro hg; ((intro hq; ((simp_all; done))))))))
            trivial
          · skip
            have c4 := h4
            (simp only [Bool.not_eq_true', Bool.not_eq_false', Bool.not_true, Bool.not_false, Bool.and_eq_true, Bool.or_eq_true, Bool.and_eq_false_iff, Bool.or_eq_false_iff, Bool.not_not, beq_true, beq_false, decide_eq_true_eq, decide_eq_false_iff_not] at c4)
            have hB := best_out (es := es) (q := pathN (X.getD i 0).toNat 32) (i := ni) (s := s) h4
            have hn1 : (ni :: s).Nodup := List.nodup_cons.2 ⟨hnn, hx2.1⟩
            have hn2 : ∀ i ∈ ni :: s, i < es.length := fun i hi => by rcases List.mem_cons.1 hi with rfl | hi; exact hni; exact hx2.2 i hi
            have hn3 := nodup_le hn1 hn2
            have hn4 : (ni :: s).Nodup ∧ ∀ i ∈ ni :: s, i < es.length := ⟨hn1, hn2⟩
            refine ⟨ni :: s, (by assumption), (by (simp only [List.length_cons] at hn3 ⊢; omega)), ?_⟩
            repeat (refine Ob.mk ?_ ?_; (focus (first | (rw [hB]; done) | (exact Eq.refl _) | omega | (intro hg; ((intro hq; ((simp_all; done))))))))
            trivial
        · skip
          have c3 := h3
          exact absurd (show true = false from h3) (by decide)
      · skip
        refine ⟨fun h3 => ?_, fun h3 => ?_⟩
        · skip
          have c3 := h3
          exact absurd (show false = true from h3) (by decide)
        · skip
          (simp only [Int.reduceToNat, UInt8.reduceOfNat] at h3)
          have c3 := h3
          have hF := long_fin (q := pathN (X.getD i 0).toNat 32) R hKo hKn hall hx2.2
          refine ⟨_, _, _, _, (cf_Find (x := X.getD i 0) W (by omega)), ?_⟩
          repeat (refine Ob.mk ?_ ?_; (focus (first | (exact Eq.refl _) | (exact fun hg => beq_f hg) | (exact fun hg => hg) | (intro hg; ((intro hq; ((simp_all; done))))))))
          refine ⟨fun h4 => ?_, fun h4 => ?_⟩
          · skip
            have c4 := h4
            (simp only [Bool.not_eq_true', Bool.not_eq_false', Bool.not_true, Bool.not_false, Bool.and_eq_true, Bool.or_eq_true, Bool.and_eq_false_iff, Bool.or_eq_false_iff, Bool.not_not, beq_true, beq_false, decide_eq_true_eq, decide_eq_false_iff_not] at c4)
            exact absurd h4 (long_b hF.1 hF.2)
          · skip
            have c4 := h4
            (simp only [Bool.not_eq_true', Bool.not_eq_false', Bool.not_true, Bool.not_false, Bool.and_eq_true, Bool.or_eq_true, Bool.and_eq_false_iff, Bool.or_eq_false_iff, Bool.not_not, beq_true, beq_false, decide_eq_true_eq, decide_eq_false_iff_not] at c4)
            repeat (refine Ob.mk ?_ ?_; focus (omega))
            refine ⟨i + 1, (by omega), (by (simp only [SrcE.len, Nat.zero_add, List.length_append, List.length_cons, List.length_nil]; omega)), ?_⟩
            repeat (refine Ob.mk ?_ ?_; (focus (first | (exact Eq.refl _) | omega | (intro hg; ((intro hq; ((simp_all; done))))))))
            trivial
    · skip
      have c2 := h2
      (simp only [Bool.not_eq_true', Bool.not_eq_false', Bool.not_true, Bool.not_false, Bool.and_eq_true, Bool.or_eq_true, Bool.and_eq_false_iff, Bool.or_eq_false_iff, Bool.not_not, beq_true, beq_false, decide_eq_true_eq, decide_eq_false_iff_not] at c2)
      repeat (refine Ob.mk ?_ ?_; focus ((exact Eq.refl _)))
      trivial
theorem cf_TrieLongest {l : List RawS} {r : RawS} {a : UInt32} (hl : ∀ x ∈ l, x.inn) (hr : r.inn) : Cf Try.prog 3 [] [rawsE l, .u32 a, .agg [.i r.k, .i r.a, .i r.b, .s r.s]] [] (.b true) := cf_TrieLongestO hl hr rfl rfl rfl rfl
end Go.Proofs.Ytcdoobkaobiacaa
