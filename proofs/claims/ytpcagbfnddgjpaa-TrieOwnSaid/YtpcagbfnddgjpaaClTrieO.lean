/- TrieOwn: slices that are the caller's own; the walk of the statement's function. -/
import Derived.Test.YtpcagbfnddgjpaaCTrieD
import Derived.Test.YtpcagbfnddgjpaaClTrieS
namespace Go.Proofs.Ytpcagbfnddgjpaa
open Go.RowKit Tr
set_option linter.unusedVariables false
set_option linter.unusedSimpArgs false

set_option maxRecDepth 100000 in
set_option maxHeartbeats 4000000 in
theorem cf_ndCloneO {L : List Nd} (hl : L.length ≤ 1000000) (h0 : 0 < L.length) : Cf Try.prog 60 [] [nodesE L] [(60, .rz L.length 4 (ndF L) 100 0)] (.osl 60 L.length) := by
  refine Cf.introR tabT {} D0 (by kernel_rfl) tab_ok Try.func60 Try.ntmps60 rfl rfl (D0_ok) (by kernel_rfl) ?_
  refine fun g1 hg1 => ?_
  refine ⟨fun h2 => ?_, fun h2 => ?_⟩
  · skip
    have c2 := h2
    exact absurd (hg1 h2) (by omega)
  · skip
    have c2 := h2
    repeat (refine Ob.mk ?_ ?_; (focus (first | (exact fun _ _ _ _ => rfl) | (exact Eq.refl _) | omega | (exact Nat.le_of_ble_eq_true rfl) | (simp only [SrcE.len, Nat.zero_add, List.length_append, List.length_cons, List.length_nil]; first | done | omega))))
    trivial
set_option maxRecDepth 100000 in
set_option maxHeartbeats 4000000 in
theorem cf_PutOwnO {T : Tr} {n : List Bool} {o : List UInt8} (w : T.wf) (hn : n.length ≤ 32) (ho : o ≠ []) (h1 : T.flat.length ≤ 1000) (h2 : (putT T n o).flat.length ≤ 1002) (h0 : 0 < (putT T n o).flat.length) : Cf Try.prog 52 [] [nodesE T.flat, netE n, .s o] [(60, .rz (putT T n o).flat.length 4 (ndF (putT T n o).flat) 100 0)] (.tup [.osl 60 (putT T n o).flat.length, .i 0]) := by
  refine Cf.introR tabT {} (DR _ _ _ tabT {}) (by kernel_rfl) tab_ok Try.func52 Try.ntmps52 rfl rfl (DR_ok tab_ok (by kernel_rfl)) (by kernel_rfl) ?_
  refine ⟨_, _, _, _, (cf_Chk w (by omega)), ?_⟩
  repeat (refine Ob.mk ?_ ?_; (focus (first | (exact Eq.refl _) | (intro hg; ((intro hq; ((simp_all; done))))))))
  refine ⟨fun h1 => ?_, fun h1 => ?_⟩
  · skip
    (simp only [Int.reduceToNat, UInt8.reduceOfNat] at h1)
    have c1 := h1
    (simp only [Bool.not_eq_true', Bool.not_eq_false', Bool.not_true, Bool.not_false, Bool.and_eq_true, Bool.or_eq_true, Bool.and_eq_false_iff, Bool.or_eq_false_iff, Bool.not_not, beq_true, beq_false, decide_eq_true_eq, decide_eq_false_iff_not] at c1)
    exact absurd (show false = true from h1) (by decide)
  · skip
    (simp only [Int.reduceToNat, UInt8.reduceOfNat] at h1)
    have c1 := h1
    (simp only [Bool.not_eq_true', Bool.not_eq_false', Bool.not_true, Bool.not_false, Bool.and_eq_true, Bool.or_eq_true, Bool.and_eq_false_iff, Bool.or_eq_false_iff, Bool.not_not, beq_true, beq_false, decide_eq_true_eq, decide_eq_false_iff_not] at c1)
    refine ⟨_, _, _, _, (cf_nCheck hn), ?_⟩
    repeat (refine Ob.mk ?_ ?_; focus ((exact Eq.refl _)))
    refine ⟨fun h2 => ?_, fun h2 => ?_⟩
    · skip
      (simp only [Int.reduceToNat, UInt8.reduceOfNat] at h2)
      have c2 := h2
      (simp only [Bool.not_eq_true', Bool.not_eq_false', Bool.not_true, Bool.not_false, Bool.and_eq_true, Bool.or_eq_true, Bool.and_eq_false_iff, Bool.or_eq_false_iff, Bool.not_not, beq_true, beq_false, decide_eq_true_eq, decide_eq_false_iff_not] at c2)
      exact absurd (show false = true from h2) (by decide)
    · skip
      (simp only [Int.reduceToNat, UInt8.reduceOfNat] at h2)
      have c2 := h2
      (simp only [Bool.not_eq_true', Bool.not_eq_false', Bool.not_true, Bool.not_false, Bool.and_eq_true, Bool.or_eq_true, Bool.and_eq_false_iff, Bool.or_eq_false_iff, Bool.not_not, beq_true, beq_false, decide_eq_true_eq, decide_eq_false_iff_not] at c2)
      refine ⟨fun h3 => ?_, fun h3 => ?_⟩
      · skip
        have c3 := h3
        (simp only [Bool.not_eq_true', Bool.not_eq_false', Bool.not_true, Bool.not_false, Bool.and_eq_true, Bool.or_eq_true, Bool.and_eq_false_iff, Bool.or_eq_false_iff, Bool.not_not, beq_true, beq_false, decide_eq_true_eq, decide_eq_false_iff_not] at c3)
        exact absurd h3 (by simp [ho])
      · skip
        have c3 := h3
        (simp only [Bool.not_eq_true', Bool.not_eq_false', Bool.not_true, Bool.not_false, Bool.and_eq_true, Bool.or_eq_true, Bool.and_eq_false_iff, Bool.or_eq_false_iff, Bool.not_not, beq_true, beq_false, decide_eq_true_eq, decide_eq_false_iff_not] at c3)
        refine ⟨[0, 1, 0, 0, 15, 31, 63, 127, 255], by kernel_rfl, ?_⟩
        refine ⟨_, _, _, _, (cf_tree w (by omega)), ?_⟩
        repeat (refine Ob.mk ?_ ?_; (focus (first | (exact Eq.refl _) | (intro hg; ((intro hq; ((simp_all; done))))))))
        refine ⟨_, _, _, _, (cf_put (o := o) w hn), ?_⟩
        repeat (refine Ob.mk ?_ ?_; focus ((exact Eq.refl _)))
        refine ⟨_, _, _, _, (cf_list (T := putT T n o) (by omega)), ?_⟩
        repeat (refine Ob.mk ?_ ?_; focus ((exact Eq.refl _)))
        refine ⟨_, _, _, _, (cf_ndCloneO (L := (putT T n o).flat) (by omega) h0), ?_⟩
        repeat (refine Ob.mk ?_ ?_; (focus (first | (exact Eq.refl _) | omega | (intro hg; ((intro hq; ((simp_all; done))))))))
        trivial
set_option maxRecDepth 100000 in
set_option maxHeartbeats 4000000 in
theorem cf_DropOwnO {T : Tr} {v : List UInt8} (w : T.wf) (h1 : T.flat.length ≤ 1000) (h0 : 0 < (stripT (fun _ o => decide (o = v)) T).flat.length) : Cf Try.prog 59 [] [nodesE T.flat, .s v] [(60, .rz (stripT (fun _ o => decide (o = v)) T).flat.length 4 (ndF (stripT (fun _ o => decide (o = v)) T).flat) 100 0)] (.tup [.osl 60 (stripT (fun _ o => decide (o = v)) T).flat.length, .i 0]) := by
  have h2 := strip_len (fun _ o => decide (o = v)) (T := T)
  refine Cf.introR tabT {} D0 (by kernel_rfl) tab_ok Try.func59 Try.ntmps59 rfl rfl (D0_ok) (by kernel_rfl) ?_
  refine ⟨_, _, _, _, (cf_Chk w (by omega)), ?_⟩
  repeat (refine Ob.mk ?_ ?_; (focus (first | (exact Eq.refl _) | (intro hg; ((intro hq; ((simp_all; done))))))))
  refine ⟨fun h1 => ?_, fun h1 => ?_⟩
  · skip
    (simp only [Int.reduceToNat, UInt8.reduceOfNat] at h1)
    have c1 := h1
    (simp only [Bool.not_eq_true', Bool.not_eq_false', Bool.not_true, Bool.not_false, Bool.and_eq_true, Bool.or_eq_true, Bool.and_eq_false_iff, Bool.or_eq_false_iff, Bool.not_not, beq_true, beq_false, decide_eq_true_eq, decide_eq_false_iff_not] at c1)
    trivial
  · skip
    (simp only [Int.reduceToNat, UInt8.reduceOfNat] at h1)
    have c1 := h1
    (simp only [Bool.not_eq_true', Bool.not_eq_false', Bool.not_true, Bool.not_false, Bool.and_eq_true, Bool.or_eq_true, Bool.and_eq_false_iff, Bool.or_eq_false_iff, Bool.not_not, beq_true, beq_false, decide_eq_true_eq, decide_eq_false_iff_not] at c1)
    refine ⟨_, _, _, _, (cf_tree w (by omega)), ?_⟩
    repeat (refine Ob.mk ?_ ?_; (focus (first | (exact Eq.refl _) | (intro hg; ((intro hq; ((simp_all; done))))))))
    refine ⟨_, _, _, _, (cf_stripOwn (w := v) (T := T)), ?_⟩
    repeat (refine Ob.mk ?_ ?_; focus ((exact Eq.refl _)))
    refine ⟨_, _, _, _, (cf_list (T := stripT (fun _ o => decide (o = v)) T) (by omega)), ?_⟩
    repeat (refine Ob.mk ?_ ?_; focus ((exact Eq.refl _)))
    refine ⟨_, _, _, _, (cf_ndCloneO (L := (stripT (fun _ o => decide (o = v)) T).flat) (by omega) h0), ?_⟩
    repeat (refine Ob.mk ?_ ?_; (focus (first | (exact Eq.refl _) | omega | (intro hg; ((intro hq; ((simp_all; done))))))))
    trivial
/-- The owners of the first nodes written over. -/
def qF (L : List Nd) (i a b : Nat) : EV := bif Nat.blt a i && Nat.beq b 2 then .s [63] else ndF L a b
theorem q_zero {L : List Nd} {n : Nat} : ∀ a, a < n → ∀ b, b < 4 → ndF L a b = qF L 0 a b := fun a _ b _ => by unfold qF; rw [show Nat.blt a 0 = false from rfl]; rfl
theorem q_next {L : List Nd} {n i : Nat} {X : List EV} (hX : X = [.s [63]]) : ∀ a, a < n → ∀ b, b < 4 → stZ (qF L i) i 2 X a b = qF L (i + 1) a b := by
  intro a _ b hb
  subst hX
  unfold stZ qF
  by_cases h : a = i
  · subst h
    have e1 : Nat.beq a a = true := Nat.beq_refl a
    have e2 : Nat.blt a (a + 1) = true := by rw [Nat.blt_eq]; omega
    have e3 : Nat.blt a a = false := by cases hb : Nat.blt a a with | false => rfl | true => (rw [Nat.blt_eq] at hb; omega)
    rw [e1, e2, e3]
    match b, hb with
    | 0, _ => rfl
    | 1, _ => rfl
    | 2, _ => rfl
    | 3, _ => rfl
  · have e1 : Nat.beq a i = false := by cases hb : Nat.beq a i with | false => rfl | true => exact absurd (Nat.eq_of_beq_eq_true hb) h
    rw [e1, Bool.false_and, cond_false]
    by_cases k : a < i
    · rw [show Nat.blt a i = true from by rw [Nat.blt_eq]; exact k, show Nat.blt a (i + 1) = true from by rw [Nat.blt_eq]; omega]
    · have e2 : Nat.blt a i = false := by cases hb : Nat.blt a i with | false => rfl | true => (rw [Nat.blt_eq] at hb; omega)
      have e3 : Nat.blt a (i + 1) = false := by cases hb : Nat.blt a (i + 1) with | false => rfl | true => (rw [Nat.blt_eq] at hb; omega)
      rw [e2, e3]
theorem flat_pos' {T : Tr} (h : T ≠ .nil) : 0 < T.flat.length := by
  cases T with
  | nil => exact absurd rfl h
  | node p o l r => exact flat_pos p o l r
set_option maxRecDepth 100000 in
set_option maxHeartbeats 4000000 in
theorem cf_TrieOwnNO {l : List RawS} {r : RawS} {T : Tr} {n : List Bool} {u v : List UInt8} (hl : ∀ x ∈ l, x.inn) (hr : r.inn) (hT : T = trL l (kMin l)) (hn : n = rnet r) (hu : u = keyS 2) (hv : v = keyS 2) (h0 : 0 < (stripT (fun _ o => decide (o = v)) T).flat.length) : Cf Try.prog 22 [] [rawsE l, .agg [.i r.k, .i r.a, .i r.b, .s r.s]] [] (.b true) := by
  have W : T.wf := by rw [hT]; exact (relL l _).wf
  have hk : kMin l ≤ 16 := Nat.min_le_right _ _
  have hLen : T.flat.length ≤ 32 := by have := trL_len l (kMin l); rw [hT]; omega
  have hPl := putT_len (T := T) (n := n) (o := u)
  have hPp : 0 < (putT T n u).flat.length := flat_pos' putT_ne
  have hn32 : n.length ≤ 32 := by rw [hn]; exact netP_len
  have hue : u ≠ [] := by rw [hu]; exact keyS_ne 2
  have hTree := cf_treeOf hl
  rw [← hT] at hTree
  have hNet := cf_kNet (s := r.s) hr.1 hr.2.1 hr.2.2.1
  rw [show netP r.k r.a r.b = n from hn.symm] at hNet
  have hKey := cf_Key (n := 2) ⟨by decide, by decide⟩
  rw [← hu] at hKey
  have hKey2 := cf_Key (n := 2) ⟨by decide, by decide⟩
  rw [← hv] at hKey2
  have hsl := strip_len (fun _ o => decide (o = v)) (T := T)
  have hQ := cf_ndEqO (L := T.flat) (by omega)
  refine Cf.introR tabT {} D0 (by kernel_rfl) tab_ok Try.func22 Try.ntmps22 rfl rfl (D0_ok) (by kernel_rfl) ?_
  refine ⟨_, _, _, _, hTree, ?_⟩
  repeat (refine Ob.mk ?_ ?_; (focus (first | (exact Eq.refl _) | (intro hg; ((intro hq; ((simp_all; done))))))))
  refine ⟨_, _, _, _, (cf_ndClone (L := T.flat) (by omega)), ?_⟩
  repeat (refine Ob.mk ?_ ?_; focus (first | (exact q_zero) | (exact Eq.refl _)))
  refine ⟨_, _, _, _, hNet, ?_⟩
  repeat (refine Ob.mk ?_ ?_; focus ((exact Eq.refl _)))
  refine ⟨_, _, _, _, hKey, ?_⟩
  repeat (refine Ob.mk ?_ ?_; focus ((exact Eq.refl _)))
  refine ⟨_, _, _, _, (cf_PutOwnO (T := T) (n := n) (o := u) W hn32 hue (by omega) (by omega) hPp), ?_⟩
  repeat (refine Ob.mk ?_ ?_; (focus (first | (exact q_zero) | (exact Eq.refl _) | (intro _; exact Eq.refl _))))
  refine ⟨fun h1 => ?_, fun h1 => ?_⟩
  · skip
    (simp only [Int.reduceToNat, UInt8.reduceOfNat] at h1)
    have c1 := h1
    (simp only [Bool.not_eq_true', Bool.not_eq_false', Bool.not_true, Bool.not_false, Bool.and_eq_true, Bool.or_eq_true, Bool.and_eq_false_iff, Bool.or_eq_false_iff, Bool.not_not, beq_true, beq_false, decide_eq_true_eq, decide_eq_false_iff_not] at c1)
    exact absurd h1 (by rw [decide_eq_false (by omega : ¬ (((putT T n u).flat.length : Int) = 0))]; decide)
  · skip
    (simp only [Int.reduceToNat, UInt8.reduceOfNat] at h1)
    have c1 := h1
    (simp only [Bool.not_eq_true', Bool.not_eq_false', Bool.not_true, Bool.not_false, Bool.and_eq_true, Bool.or_eq_true, Bool.and_eq_false_iff, Bool.or_eq_false_iff, Bool.not_not, beq_true, beq_false, decide_eq_true_eq, decide_eq_false_iff_not] at c1)
    refine ⟨Nat, fun i => ⟨[(5, nodesE T.flat), (8, nodesE T.flat), (9, .osl 1028060 (putT T n u).flat.length), (43, .i ((putT T n u).flat.length : Int)), (44, .i (i : Int))], [(1028060, .rz (putT T n u).flat.length 4 (qF (putT T n u).flat i) 100 0)]⟩, fun i => i ≤ (putT T n u).flat.length, fun i => (putT T n u).flat.length - i, 0, by omega, ?_, fun i hx1 => ?_⟩
    · skip
      repeat (refine Ob.mk ?_ ?_; focus (first | (exact q_zero) | (exact Eq.refl _) | omega))
      trivial
    refine ⟨fun h2 => ?_, fun h2 => ?_⟩
    · skip
      have c2 := h2
      (simp only [Bool.not_eq_true', Bool.not_eq_false', Bool.not_true, Bool.not_false, Bool.and_eq_true, Bool.or_eq_true, Bool.and_eq_false_iff, Bool.or_eq_false_iff, Bool.not_not, beq_true, beq_false, decide_eq_true_eq, decide_eq_false_iff_not] at c2)
      repeat (refine Ob.mk ?_ ?_; focus (omega))
      refine ⟨i + 1, (by omega), (by (simp only [SrcE.len, Nat.zero_add, List.length_append, List.length_cons, List.length_nil]; omega)), ?_⟩
      repeat (refine Ob.mk ?_ ?_; focus (first | (exact q_next rfl) | (exact q_zero) | (exact Eq.refl _) | omega))
      trivial
    · skip
      have c2 := h2
      (simp only [Bool.not_eq_true', Bool.not_eq_false', Bool.not_true, Bool.not_false, Bool.and_eq_true, Bool.or_eq_true, Bool.and_eq_false_iff, Bool.or_eq_false_iff, Bool.not_not, beq_true, beq_false, decide_eq_true_eq, decide_eq_false_iff_not] at c2)
      refine ⟨_, _, _, _, hKey2, ?_⟩
      repeat (refine Ob.mk ?_ ?_; focus ((exact Eq.refl _)))
      refine ⟨_, _, _, _, (cf_DropOwnO (T := T) (v := v) W (by omega) h0), ?_⟩
      repeat (refine Ob.mk ?_ ?_; focus (first | (exact q_zero) | (exact Eq.refl _)))
      refine ⟨Nat, fun i => ⟨[(5, nodesE T.flat), (8, nodesE T.flat), (13, .i 0), (12, .osl 1055060 (stripT (fun _ o => decide (o = v)) T).flat.length), (59, .i ((stripT (fun _ o => decide (o = v)) T).flat.length : Int)), (60, .i (i : Int))], [(1055060, .rz (stripT (fun _ o => decide (o = v)) T).flat.length 4 (qF (stripT (fun _ o => decide (o = v)) T).flat i) 100 0)]⟩, fun i => i ≤ (stripT (fun _ o => decide (o = v)) T).flat.length, fun i => (stripT (fun _ o => decide (o = v)) T).flat.length - i, 0, by omega, ?_, fun i hx2 => ?_⟩
      · skip
        repeat (refine Ob.mk ?_ ?_; focus (first | (exact q_zero) | (exact Eq.refl _) | omega))
        trivial
      refine ⟨fun h3 => ?_, fun h3 => ?_⟩
      · skip
        have c3 := h3
        (simp only [Bool.not_eq_true', Bool.not_eq_false', Bool.not_true, Bool.not_false, Bool.and_eq_true, Bool.or_eq_true, Bool.and_eq_false_iff, Bool.or_eq_false_iff, Bool.not_not, beq_true, beq_false, decide_eq_true_eq, decide_eq_false_iff_not] at c3)
        repeat (refine Ob.mk ?_ ?_; focus (omega))
        refine ⟨i + 1, (by omega), (by (simp only [SrcE.len, Nat.zero_add, List.length_append, List.length_cons, List.length_nil]; omega)), ?_⟩
        repeat (refine Ob.mk ?_ ?_; focus (first | (exact q_next rfl) | (exact q_zero) | (exact Eq.refl _) | omega))
        trivial
      · skip
        have c3 := h3
        (simp only [Bool.not_eq_true', Bool.not_eq_false', Bool.not_true, Bool.not_false, Bool.and_eq_true, Bool.or_eq_true, Bool.and_eq_false_iff, Bool.or_eq_false_iff, Bool.not_not, beq_true, beq_false, decide_eq_true_eq, decide_eq_false_iff_not] at c3)
        refine gx2 (hQ) (fun hk => ⟨fun _ => hk, ?_⟩)
        repeat (refine Ob.mk ?_ ?_; (focus (first | (exact Eq.refl _) | (intro _; exact Eq.refl _) | (intro hg; ((intro hq; ((simp_all; done))))))))
        trivial
set_option maxRecDepth 100000 in
set_option maxHeartbeats 4000000 in
theorem cf_TrieOwnEO {l : List RawS} {r : RawS} {T : Tr} {n : List Bool} {u v : List UInt8} (hl : ∀ x ∈ l, x.inn) (hr : r.inn) (hT : T = trL l (kMin l)) (hn : n = rnet r) (hu : u = keyS 2) (hv : v = keyS 2) (h0 : (stripT (fun _ o => decide (o = v)) T).flat = []) : Cf Try.prog 22 [] [rawsE l, .agg [.i r.k, .i r.a, .i r.b, .s r.s]] [] (.b true) := by
  have W : T.wf := by rw [hT]; exact (relL l _).wf
  have hk : kMin l ≤ 16 := Nat.min_le_right _ _
  have hLen : T.flat.length ≤ 32 := by have := trL_len l (kMin l); rw [hT]; omega
  have hPl := putT_len (T := T) (n := n) (o := u)
  have hPp : 0 < (putT T n u).flat.length := flat_pos' putT_ne
  have hn32 : n.length ≤ 32 := by rw [hn]; exact netP_len
  have hue : u ≠ [] := by rw [hu]; exact keyS_ne 2
  have hTree := cf_treeOf hl
  rw [← hT] at hTree
  have hNet := cf_kNet (s := r.s) hr.1 hr.2.1 hr.2.2.1
  rw [show netP r.k r.a r.b = n from hn.symm] at hNet
  have hKey := cf_Key (n := 2) ⟨by decide, by decide⟩
  rw [← hu] at hKey
  have hKey2 := cf_Key (n := 2) ⟨by decide, by decide⟩
  rw [← hv] at hKey2
  have hsl := strip_len (fun _ o => decide (o = v)) (T := T)
  have hQ := cf_ndEqO (L := T.flat) (by omega)
  refine Cf.introR tabT {} D0 (by kernel_rfl) tab_ok Try.func22 Try.ntmps22 rfl rfl (D0_ok) (by kernel_rfl) ?_
  refine ⟨_, _, _, _, hTree, ?_⟩
  repeat (refine Ob.mk ?_ ?_; (focus (first | (exact Eq.refl _) | (intro hg; ((intro hq; ((simp_all; done))))))))
  refine ⟨_, _, _, _, (cf_ndClone (L := T.flat) (by omega)), ?_⟩
  repeat (refine Ob.mk ?_ ?_; focus (first | (exact q_zero) | (exact Eq.refl _)))
  refine ⟨_, _, _, _, hNet, ?_⟩
  repeat (refine Ob.mk ?_ ?_; focus ((exact Eq.refl _)))
  refine ⟨_, _, _, _, hKey, ?_⟩
  repeat (refine Ob.mk ?_ ?_; focus ((exact Eq.refl _)))
  refine ⟨_, _, _, _, (cf_PutOwnO (T := T) (n := n) (o := u) W hn32 hue (by omega) (by omega) hPp), ?_⟩
  repeat (refine Ob.mk ?_ ?_; (focus (first | (exact q_zero) | (exact Eq.refl _) | (intro _; exact Eq.refl _))))
  refine ⟨fun h1 => ?_, fun h1 => ?_⟩
  · skip
    (simp only [Int.reduceToNat, UInt8.reduceOfNat] at h1)
    have c1 := h1
    (simp only [Bool.not_eq_true', Bool.not_eq_false', Bool.not_true, Bool.not_false, Bool.and_eq_true, Bool.or_eq_true, Bool.and_eq_false_iff, Bool.or_eq_false_iff, Bool.not_not, beq_true, beq_false, decide_eq_true_eq, decide_eq_false_iff_not] at c1)
    exact absurd h1 (by rw [decide_eq_false (by omega : ¬ (((putT T n u).flat.length : Int) = 0))]; decide)
  · skip
    (simp only [Int.reduceToNat, UInt8.reduceOfNat] at h1)
    have c1 := h1
    (simp only [Bool.not_eq_true', Bool.not_eq_false', Bool.not_true, Bool.not_false, Bool.and_eq_true, Bool.or_eq_true, Bool.and_eq_false_iff, Bool.or_eq_false_iff, Bool.not_not, beq_true, beq_false, decide_eq_true_eq, decide_eq_false_iff_not] at c1)
    refine ⟨Nat, fun i => ⟨[(5, nodesE T.flat), (8, nodesE T.flat), (9, .osl 1028060 (putT T n u).flat.length), (43, .i ((putT T n u).flat.length : Int)), (44, .i (i : Int))], [(1028060, .rz (putT T n u).flat.length 4 (qF (putT T n u).flat i) 100 0)]⟩, fun i => i ≤ (putT T n u).flat.length, fun i => (putT T n u).flat.length - i, 0, by omega, ?_, fun i hx1 => ?_⟩
    · skip
      repeat (refine Ob.mk ?_ ?_; focus (first | (exact q_zero) | (exact Eq.refl _) | omega))
      trivial
    refine ⟨fun h2 => ?_, fun h2 => ?_⟩
    · skip
      have c2 := h2
      (simp only [Bool.not_eq_true', Bool.not_eq_false', Bool.not_true, Bool.not_false, Bool.and_eq_true, Bool.or_eq_true, Bool.and_eq_false_iff, Bool.or_eq_false_iff, Bool.not_not, beq_true, beq_false, decide_eq_true_eq, decide_eq_false_iff_not] at c2)
      repeat (refine Ob.mk ?_ ?_; focus (omega))
      refine ⟨i + 1, (by omega), (by (simp only [SrcE.len, Nat.zero_add, List.length_append, List.length_cons, List.length_nil]; omega)), ?_⟩
      repeat (refine Ob.mk ?_ ?_; focus (first | (exact q_next rfl) | (exact q_zero) | (exact Eq.refl _) | omega))
      trivial
    · skip
      have c2 := h2
      (simp only [Bool.not_eq_true', Bool.not_eq_false', Bool.not_true, Bool.not_false, Bool.and_eq_true, Bool.or_eq_true, Bool.and_eq_false_iff, Bool.or_eq_false_iff, Bool.not_not, beq_true, beq_false, decide_eq_true_eq, decide_eq_false_iff_not] at c2)
      refine ⟨_, _, _, _, hKey2, ?_⟩
      repeat (refine Ob.mk ?_ ?_; focus ((exact Eq.refl _)))
      refine ⟨_, _, _, _, (cf_DropOwnerO (T := T) (v := v) W (by omega)), ?_⟩
      repeat (refine Ob.mk ?_ ?_; focus (first | (exact q_zero) | (exact Eq.refl _)))
      refine ⟨Unit, fun i => ⟨[(5, nodesE T.flat), (8, nodesE T.flat), (13, .i 0), (59, .i 0), (60, .i 0)], []⟩, fun i => True, fun i => 0, (), trivial, ?_, fun i hx2 => ?_⟩
      · skip
        repeat (refine Ob.mk ?_ ?_; (focus (first | (exact q_zero) | (rw [h0]; rfl) | (exact Eq.refl _))))
        trivial
      refine ⟨fun h3 => ?_, fun h3 => ?_⟩
      · skip
        have c3 := h3
        (simp only [Bool.not_eq_true', Bool.not_eq_false', Bool.not_true, Bool.not_false, Bool.and_eq_true, Bool.or_eq_true, Bool.and_eq_false_iff, Bool.or_eq_false_iff, Bool.not_not, beq_true, beq_false, decide_eq_true_eq, decide_eq_false_iff_not] at c3)
        exact absurd (show false = true from h3) (by decide)
      · skip
        have c3 := h3
        (simp only [Bool.not_eq_true', Bool.not_eq_false', Bool.not_true, Bool.not_false, Bool.and_eq_true, Bool.or_eq_true, Bool.and_eq_false_iff, Bool.or_eq_false_iff, Bool.not_not, beq_true, beq_false, decide_eq_true_eq, decide_eq_false_iff_not] at c3)
        refine gx2 (hQ) (fun hk => ⟨fun _ => hk, ?_⟩)
        repeat (refine Ob.mk ?_ ?_; (focus (first | (exact Eq.refl _) | (intro _; exact Eq.refl _) | (intro hg; ((intro hq; ((simp_all; done))))))))
        trivial
theorem cf_TrieOwn {l : List RawS} {r : RawS} (hl : ∀ x ∈ l, x.inn) (hr : r.inn) : Cf Try.prog 22 [] [rawsE l, .agg [.i r.k, .i r.a, .i r.b, .s r.s]] [] (.b true) := by
  rcases Nat.eq_zero_or_pos (stripT (fun _ o => decide (o = keyS 2)) (trL l (kMin l))).flat.length with h | h
  · exact cf_TrieOwnEO hl hr rfl rfl rfl rfl (List.eq_nil_of_length_eq_zero h)
  · exact cf_TrieOwnNO hl hr rfl rfl rfl rfl h
end Go.Proofs.Ytpcagbfnddgjpaa
