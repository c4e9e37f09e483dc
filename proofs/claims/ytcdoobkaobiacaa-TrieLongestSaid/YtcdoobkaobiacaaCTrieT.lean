/- Tries: grow, tree, Check. -/
import Derived.Test.YtcdoobkaobiacaaCTrieG
namespace Go.Proofs.Ytcdoobkaobiacaa
open Go.RowKit Tr
set_option linter.unusedVariables false
set_option linter.unusedSimpArgs false

theorem und_pre {p : List Bool} {b : Bool} {q o l r} (h : (Tr.node q o l r).und (p ++ [b])) : p ++ [b] <+: q := h
theorem flat_pos (p : List Bool) (o : List UInt8) (l r : Tr) : 0 < (Tr.node p o l r).flat.length := by rw [flat_len]; omega
theorem cf_growT : ∀ (T : Tr) (R : List Nd), T.wf → (T.flat ++ R).length ≤ 1000000 → T ≠ .nil → Cf Try.prog 30 [] [nodesE (T.flat ++ R)] [] (.tup [.rp T.c, nodesE R, .b true])
  | .nil, R, w, hn, h => absurd rfl h
  | .node p o .nil .nil, R, w, hn, _ => by
    obtain ⟨hp, ul, ur, hx, wl, wr⟩ := w
    exact cf_grow00O hp rfl (fun e => (hx e).1 rfl) hn
  | .node p o (.node a b c d) .nil, R, w, hn, _ => by
    obtain ⟨hp, ul, ur, hx, wl, wr⟩ := w
    have e : (Tr.node a b c d).flat ++ Tr.nil.flat = (Tr.node a b c d).flat := List.append_nil _
    have hn' : (((Tr.node a b c d).flat ++ Tr.nil.flat) ++ R).length + 1 ≤ 1000000 := hn
    rw [e] at hn'
    have l1 : (Tr.node a b c d).flat.length ≤ 1000000 := by rw [List.length_append] at hn'; omega
    have g := cf_growT (.node a b c d) [] wl (by rw [List.append_nil]; exact l1) (fun e => by cases e)
    rw [List.append_nil] at g
    have k := cf_grow10O (p := p) (o := o) (R := R) (s := (Tr.node a b c d).flat.length + Tr.nil.flat.length + 1) hp wl.1 (und_pre ul) (flat_pos a b c d) g rfl (fun e => (hx e).2 rfl) hn'
    have e2 : (Tr.node p o (.node a b c d) .nil).flat ++ R = ⟨p, o, (Tr.node a b c d).flat.length + Tr.nil.flat.length + 1⟩ :: ((Tr.node a b c d).flat ++ R) := by
      show ⟨p, o, (Tr.node a b c d).flat.length + Tr.nil.flat.length + 1⟩ :: (((Tr.node a b c d).flat ++ Tr.nil.flat) ++ R) = _
      rw [e]
    rw [e2]
    exact k
  | .node p o .nil (.node a b c d), R, w, hn, _ => by
    obtain ⟨hp, ul, ur, hx, wl, wr⟩ := w
    have hn' : ((Tr.node a b c d).flat ++ R).length + 1 ≤ 1000000 := hn
    have l1 : (Tr.node a b c d).flat.length ≤ 1000000 := by rw [List.length_append] at hn'; omega
    have g := cf_growT (.node a b c d) [] wr (by rw [List.append_nil]; exact l1) (fun e => by cases e)
    rw [List.append_nil] at g
    exact cf_grow01O (p := p) (o := o) (R := R) (s := Tr.nil.flat.length + (Tr.node a b c d).flat.length + 1) hp wr.1 (und_pre ur) (flat_pos a b c d) g (by rw [Tr.flat, List.length_nil, Nat.zero_add]; rfl) (fun e => (hx e).1 rfl) hn'
  | .node p o (.node a b c d) (.node a' b' c' d'), R, w, hn, _ => by
    obtain ⟨hp, ul, ur, hx, wl, wr⟩ := w
    have hn' : (((Tr.node a b c d).flat ++ (Tr.node a' b' c' d').flat) ++ R).length + 1 ≤ 1000000 := hn
    have l1 : ((Tr.node a b c d).flat ++ (Tr.node a' b' c' d').flat).length ≤ 1000000 := by rw [List.length_append] at hn'; omega
    have l2 : (Tr.node a' b' c' d').flat.length ≤ 1000000 := by rw [List.length_append] at l1; omega
    have g0 := cf_growT (.node a b c d) (Tr.node a' b' c' d').flat wl l1 (fun e => by cases e)
    have g1 := cf_growT (.node a' b' c' d') [] wr (by rw [List.append_nil]; exact l2) (fun e => by cases e)
    rw [List.append_nil] at g1
    exact cf_grow11O (p := p) (o := o) (R := R) (s := (Tr.node a b c d).flat.length + (Tr.node a' b' c' d').flat.length + 1) hp wl.1 (und_pre ul) (flat_pos a b c d) wr.1 (und_pre ur) (flat_pos a' b' c' d') g0 g1 (by rw [List.length_append]) hn'
theorem cf_growW {T : Tr} (w : T.wf) (hn : T.flat.length ≤ 1000000) (h : T ≠ .nil) : Cf Try.prog 30 [] [nodesE T.flat] [] (.tup [.rp T.c, nodesE [], .b true]) := by
  have g := cf_growT T [] w (by rw [List.append_nil]; exact hn) h
  rw [List.append_nil] at g; exact g
set_option maxRecDepth 100000 in
set_option maxHeartbeats 4000000 in
theorem cf_growNilO  : Cf Try.prog 30 [] [nodesE []] [] (.tup [.v (.pointer none), .v (.slice none 0 0), .b false]) := by
  refine Cf.introR tabT {} (DR _ _ _ tabT {}) (by kernel_rfl) tab_ok Try.func30 Try.ntmps30 rfl rfl (DR_ok tab_ok (by kernel_rfl)) (by kernel_rfl) ?_
  repeat (refine Ob.mk ?_ ?_; (focus (first | (exact fun hg => beq_t hg) | (exact fun hg => beq_f hg) | (intro hg; ((simp_all; done))))))
  refine gx2 (cf_nCheck (p := []) (by decide)) (fun hk => ⟨fun _ => hk, ?_⟩)
  repeat (refine Ob.mk ?_ ?_; (focus (first | (intro _; exact Eq.refl _) | (exact fun hg => beq_t hg) | (exact fun hg => beq_f hg))))
  refine ⟨fun h1 => ?_, fun h1 => ?_⟩
  · skip
    (simp only [Int.reduceToNat, UInt8.reduceOfNat] at h1)
    have c1 := h1
    (simp only [Bool.not_eq_true', Bool.not_eq_false', Bool.not_true, Bool.not_false, Bool.and_eq_true, Bool.or_eq_true, Bool.and_eq_false_iff, Bool.or_eq_false_iff, Bool.not_not, beq_true, beq_false, decide_eq_true_eq, decide_eq_false_iff_not] at c1)
    repeat (refine Ob.mk ?_ ?_; focus ((exact Eq.refl _)))
    trivial
  · skip
    (simp only [Int.reduceToNat, UInt8.reduceOfNat] at h1)
    have c1 := h1
    (simp only [Bool.not_eq_true', Bool.not_eq_false', Bool.not_true, Bool.not_false, Bool.and_eq_true, Bool.or_eq_true, Bool.and_eq_false_iff, Bool.or_eq_false_iff, Bool.not_not, beq_true, beq_false, decide_eq_true_eq, decide_eq_false_iff_not] at c1)
    exact absurd (show true = false from h1) (by decide)
set_option maxRecDepth 100000 in
set_option maxHeartbeats 4000000 in
theorem cf_treeO {L R : List Nd} {t : Option (List PV)} (g : Cf Try.prog 30 [] [nodesE L] [] (.tup [.rp t, nodesE R, .b true])) : Cf Try.prog 21 [] [nodesE L] [] (.rp t) := by
  refine Cf.introR tabT {} D0 (by kernel_rfl) tab_ok Try.func21 Try.ntmps21 rfl rfl (D0_ok) (by kernel_rfl) ?_
  refine ⟨_, _, _, _, g, ?_⟩
  repeat (refine Ob.mk ?_ ?_; (focus (first | (exact Eq.refl _) | (intro hg; ((intro hq; ((simp_all; done))))))))
  trivial
set_option maxRecDepth 100000 in
set_option maxHeartbeats 4000000 in
theorem cf_treeNilO  : Cf Try.prog 21 [] [nodesE []] [] (.v (.pointer none)) := by
  refine Cf.introR tabT {} D0 (by kernel_rfl) tab_ok Try.func21 Try.ntmps21 rfl rfl (D0_ok) (by kernel_rfl) ?_
  refine ⟨_, _, _, _, cf_growNilO, ?_⟩
  repeat (refine Ob.mk ?_ ?_; (focus (first | (exact Eq.refl _) | (simp only [SrcE.len, Nat.zero_add, List.length_append, List.length_cons, List.length_nil]; omega))))
  trivial
theorem cf_tree : ∀ {T : Tr}, T.wf → T.flat.length ≤ 1000000 → Cf Try.prog 21 [] [nodesE T.flat] [] (.rp T.c)
  | .nil, _, _ => cf_treeNilO
  | .node p o l r, w, h => cf_treeO (cf_growW w h (fun e => by cases e))
theorem flat_le : ∀ {T : Tr} {n : Nd}, T.wf → n ∈ T.flat → n.p.length ≤ 32
  | .nil, n, _, h => by rw [Tr.flat] at h; cases h
  | .node p o l r, n, w, h => by
    rw [Tr.flat] at h
    rcases List.mem_cons.1 h with rfl | h
    · exact w.1
    · rcases List.mem_append.1 h with h | h
      · exact flat_le w.2.2.2.2.1 h
      · exact flat_le w.2.2.2.2.2 h
theorem flat_at {T : Tr} (w : T.wf) (i : Nat) : (T.flat.getD i default).p.length ≤ 32 := by
  rw [List.getD_eq_getElem?_getD]
  cases h : T.flat[i]? with
  | none => decide
  | some n => exact flat_le w (List.mem_of_getElem? h)
set_option maxRecDepth 100000 in
set_option maxHeartbeats 4000000 in
theorem cf_ChkO {L : List Nd} {t : Option (List PV)} (hL : ∀ i, (L.getD i default).p.length ≤ 32) (hn : L.length ≤ 1000000) (g : 0 < L.length → Cf Try.prog 30 [] [nodesE L] [] (.tup [.rp t, nodesE [], .b true])) : Cf Try.prog 15 [] [nodesE L] [] (.i 0) := by
  refine Cf.introR tabT {} D0 (by kernel_rfl) tab_ok Try.func15 Try.ntmps15 rfl rfl (D0_ok) (by kernel_rfl) ?_
  refine ⟨Nat, fun i => ⟨[(0, nodesE L), (9, nodesE L), (10, .i (L.length : Int)), (11, .i (i : Int))], []⟩, fun i => i ≤ L.length, fun i => L.length - i, 0, by omega, ?_, fun i hx1 => ?_⟩
  · skip
    repeat (refine Ob.mk ?_ ?_; (focus (first | (exact Eq.refl _) | (intro hg; ((intro hq; ((simp_all; done))))))))
    trivial
  refine ⟨fun h1 => ?_, fun h1 => ?_⟩
  · skip
    have c1 := h1
    (simp only [Bool.not_eq_true', Bool.not_eq_false', Bool.not_true, Bool.not_false, Bool.and_eq_true, Bool.or_eq_true, Bool.and_eq_false_iff, Bool.or_eq_false_iff, Bool.not_not, beq_true, beq_false, decide_eq_true_eq, decide_eq_false_iff_not] at c1)
    repeat (refine Ob.mk ?_ ?_; focus (omega))
    refine ⟨_, _, _, _, (cf_nCheck (hL i)), ?_⟩
    repeat (refine Ob.mk ?_ ?_; focus ((exact Eq.refl _)))
    refine ⟨fun h2 => ?_, fun h2 => ?_⟩
    · skip
      (simp only [Int.reduceToNat, UInt8.reduceOfNat] at h2)
      have c2 := h2
      (simp only [Bool.not_eq_true', Bool.not_eq_false', Bool.not_true, Bool.not_false, Bool.and_eq_true, Bool.or_eq_true, Bool.and_eq_false_iff, Bool.or_eq_false_iff, Bool.not_not, beq_true, beq_false, decide_eq_true_eq, decide_eq_false_iff_not] at c2)
      exact absurd (show false = true from h2) (by decide)
    · skip
      (simp only [Int.reduceToNat, UInt8.reduceOfNat] at h2)
      have c2 := h2
      (simp only [Bool.not_eq_true', Bool.not_eq_false', Bool.not_true, Bool.not_false, Bool.and_eq_true, Bool.or_eq_true, Bool.and_eq_false_iff, Bool.or_eq_false_iff, Bool.not_not, beq_true, beq_false, decide_eq_true_eq, decide_eq_false_iff_not] at c2)
      repeat (refine Ob.mk ?_ ?_; focus (omega))
      refine ⟨i + 1, (by omega), (by (simp only [SrcE.len, Nat.zero_add, List.length_append, List.length_cons, List.length_nil]; omega)), ?_⟩
      repeat (refine Ob.mk ?_ ?_; (focus (first | (exact Eq.refl _) | (intro hg; ((intro hq; ((simp_all; done))))))))
      trivial
  · skip
    have c1 := h1
    (simp only [Bool.not_eq_true', Bool.not_eq_false', Bool.not_true, Bool.not_false, Bool.and_eq_true, Bool.or_eq_true, Bool.and_eq_false_iff, Bool.or_eq_false_iff, Bool.not_not, beq_true, beq_false, decide_eq_true_eq, decide_eq_false_iff_not] at c1)
    refine ⟨fun h3 => ?_, fun h3 => ?_⟩
    · skip
      have c3 := h3
      (simp only [Bool.not_eq_true', Bool.not_eq_false', Bool.not_true, Bool.not_false, Bool.and_eq_true, Bool.or_eq_true, Bool.and_eq_false_iff, Bool.or_eq_false_iff, Bool.not_not, beq_true, beq_false, decide_eq_true_eq, decide_eq_false_iff_not] at c3)
      repeat (refine Ob.mk ?_ ?_; focus ((exact Eq.refl _)))
      trivial
    · skip
      have c3 := h3
      (simp only [Bool.not_eq_true', Bool.not_eq_false', Bool.not_true, Bool.not_false, Bool.and_eq_true, Bool.or_eq_true, Bool.and_eq_false_iff, Bool.or_eq_false_iff, Bool.not_not, beq_true, beq_false, decide_eq_true_eq, decide_eq_false_iff_not] at c3)
      have hg := g (by omega)
      refine ⟨_, _, _, _, hg, ?_⟩
      repeat (refine Ob.mk ?_ ?_; (focus (first | (exact Eq.refl _) | (intro _; exact Eq.refl _) | (intro hg; ((intro hq; ((simp_all; done))))))))
      refine ⟨fun h4 => ?_, fun h4 => ?_⟩
      · skip
        have c4 := h4
        (simp only [Bool.not_eq_true', Bool.not_eq_false', Bool.not_true, Bool.not_false, Bool.and_eq_true, Bool.or_eq_true, Bool.and_eq_false_iff, Bool.or_eq_false_iff, Bool.not_not, beq_true, beq_false, decide_eq_true_eq, decide_eq_false_iff_not] at c4)
        exact absurd (show false = true from h4) (by decide)
      · skip
        have c4 := h4
        (simp only [Bool.not_eq_true', Bool.not_eq_false', Bool.not_true, Bool.not_false, Bool.and_eq_true, Bool.or_eq_true, Bool.and_eq_false_iff, Bool.or_eq_false_iff, Bool.not_not, beq_true, beq_false, decide_eq_true_eq, decide_eq_false_iff_not] at c4)
        repeat (refine Ob.mk ?_ ?_; focus ((exact Eq.refl _)))
        trivial
theorem cf_Chk {T : Tr} (w : T.wf) (hn : T.flat.length ≤ 1000000) : Cf Try.prog 15 [] [nodesE T.flat] [] (.i 0) :=
  cf_ChkO (t := T.c) (flat_at w) hn fun h => cf_growW w hn (fun e => by subst e; rw [Tr.flat] at h; exact absurd h (by decide))
end Go.Proofs.Ytcdoobkaobiacaa
