/- Tries: grow (printed by mkgrow.py). -/
import Derived.Test.YtcdoobkaobiacaaCTrieL
namespace Go.Proofs.Ytcdoobkaobiacaa
open Go.RowKit
set_option linter.unusedVariables false
set_option linter.unusedSimpArgs false

/-- The j-th of lists. -/
def gM : List (List Nd) → Nat → List Nd
  | [], _ => []
  | x :: _, 0 => x
  | _ :: l, j + 1 => gM l j
def gK : List (Option (List PV)) → Nat → Option (List PV)
  | [], _ => none
  | x :: _, 0 => x
  | _ :: l, j + 1 => gK l j
theorem gr_mine {x : Nd} {M R : List Nd} {s : Nat} (hs : s = M.length + 1) : ∀ i, i < s - 1 → ∀ j, j < 4 → ndF (x :: (M ++ R)) (1 + i) j = ndF M i j := by
  intro i hi j hj
  show ndC ((x :: (M ++ R)).getD (1 + i) default) j = ndC (M.getD i default) j
  rw [Nat.add_comm 1 i, List.getD_cons_succ, List.getD_eq_getElem?_getD, List.getElem?_append_left (by omega), ← List.getD_eq_getElem?_getD]
theorem gr_rest {x : Nd} {M R : List Nd} {s : Nat} (hs : s = M.length + 1) : ∀ i, i < (M ++ R).length + 1 - s → ∀ j, j < 4 → ndF (x :: (M ++ R)) (s + i) j = ndF R i j := by
  intro i hi j hj
  show ndC ((x :: (M ++ R)).getD (s + i) default) j = ndC (R.getD i default) j
  rw [hs, show M.length + 1 + i = (M.length + i) + 1 from by omega, List.getD_cons_succ, List.getD_eq_getElem?_getD, List.getElem?_append_right (by omega), ← List.getD_eq_getElem?_getD, show M.length + i - M.length = i from by omega]
theorem gM_lt : ∀ {l : List (List Nd)} {j : Nat}, 0 < (gM l j).length → j < l.length
  | [], j, h => by unfold gM at h; simp at h
  | x :: l, 0, _ => by simp
  | x :: l, j + 1, h => by have := gM_lt (l := l) (j := j) h; simp; omega
theorem gM_end1 {A : List Nd} {j : Nat} (hj : j ≤ 1) (h : ¬ (0 : Int) < ((gM [A] j).length : Int)) (hA : 0 < A.length) : j = 1 := by
  rcases (by omega : j = 0 ∨ j = 1) with rfl | rfl
  · exact absurd (show (0 : Int) < (A.length : Int) by omega) h
  · rfl
theorem gM_end2 {A B : List Nd} {j : Nat} (hj : j ≤ 2) (h : ¬ (0 : Int) < ((gM [A ++ B, B] j).length : Int)) (hA : 0 < A.length) (hB : 0 < B.length) : j = 2 := by
  rcases (by omega : j = 0 ∨ j = 1 ∨ j = 2) with rfl | rfl | rfl
  · exact absurd (show (0 : Int) < ((A ++ B).length : Int) by rw [List.length_append]; omega) h
  · exact absurd (show (0 : Int) < (B.length : Int) by omega) h
  · rfl

set_option maxRecDepth 100000 in
set_option maxHeartbeats 4000000 in
theorem cf_grow00O {p : List Bool} {o : List UInt8} {R : List Nd} {s : Nat} (hp : p.length ≤ 32) (hs : s = ([] : List Nd).length + 1) (ho : o ≠ []) (hn : (([] : List Nd) ++ R).length + 1 ≤ 1000000) : Cf Try.prog 30 [] [nodesE (⟨p, o, s⟩ :: (([] : List Nd) ++ R))] [] (.tup [nodeE p o .nil .nil, nodesE R, .b true]) := by
  have e0 : (((⟨p, o, s⟩ : Nd) :: (([] : List Nd) ++ R)).getD 0 default).s = s := rfl
  have e1 : ((⟨p, o, s⟩ : Nd) :: (([] : List Nd) ++ R)).length = (([] : List Nd) ++ R).length + 1 := rfl
  have e2 : (([] : List Nd) ++ R).length = ([] : List Nd).length + R.length := List.length_append
  have e3 : ([] : List Nd).length = 0 := rfl
  refine Cf.introR tabT {} (DR _ _ _ tabT {}) (by kernel_rfl) tab_ok Try.func30 Try.ntmps30 rfl rfl (DR_ok tab_ok (by kernel_rfl)) (by kernel_rfl) ?_
  repeat (refine Ob.mk ?_ ?_; (focus (first | (intro _; exact Eq.refl _) | omega | (exact fun hg => beq_f hg) | (exact fun hg => hg))))
  refine gx2 (cf_nCheck hp) (fun hk => ⟨fun _ => hk, ?_⟩)
  repeat (refine Ob.mk ?_ ?_; (focus (first | (intro _; exact Eq.refl _) | (exact fun hg => beq_f hg) | (exact fun hg => hg))))
  refine ⟨fun h1 => ?_, fun h1 => ?_⟩
  · skip
    (simp only [Int.reduceToNat, UInt8.reduceOfNat] at h1)
    have c1 := h1
    (simp only [Bool.not_eq_true', Bool.not_eq_false', Bool.not_true, Bool.not_false, Bool.and_eq_true, Bool.or_eq_true, Bool.and_eq_false_iff, Bool.or_eq_false_iff, Bool.not_not, beq_true, beq_false, decide_eq_true_eq, decide_eq_false_iff_not] at c1)
    exfalso; simp only [Bool.or_eq_true, decide_eq_true_eq, decide_true, Bool.not_true, Bool.false_eq_true, or_false] at h1; omega
  · skip
    (simp only [Int.reduceToNat, UInt8.reduceOfNat] at h1)
    have c1 := h1
    (simp only [Bool.not_eq_true', Bool.not_eq_false', Bool.not_true, Bool.not_false, Bool.and_eq_true, Bool.or_eq_true, Bool.and_eq_false_iff, Bool.or_eq_false_iff, Bool.not_not, beq_true, beq_false, decide_eq_true_eq, decide_eq_false_iff_not] at c1)
    refine ⟨[0, 1, 3, 7, 0, 16, 48, 112, 255, 511, 1023], by kernel_rfl, ?_⟩
    repeat (refine Ob.mk ?_ ?_; focus (omega))
    refine ⟨[0, 0, 2, 6, 14, 31, 0, 0, 128, 384, 896, 1984, 63, 8191], by kernel_rfl, ?_⟩
    repeat (refine Ob.mk ?_ ?_; (focus (first | omega | (simp [SrcE.len]; omega))))
    refine ⟨Nat, fun j => ⟨[(5, .own 1048 0), (6, nodesE (gM [] j)), (7, nodesE R)], [(1048, .box [.u32 (adr p), .i (p.length : Int), .s o, .rp (gK [none] j), .rp (gK [none] j)] 61)]⟩, fun j => j ≤ 0, fun j => 0 - j, 0, by omega, ?_, fun j hx1 => ?_⟩
    · skip
      repeat (refine Ob.mk ?_ ?_; (focus (first | (show s - 1 = ([] : List Nd).length; omega) | (exact gr_mine hs) | (exact gr_rest hs) | (exact Eq.refl _) | (simp [SrcE.len]; omega))))
      trivial
    refine ⟨fun h2 => ?_, fun h2 => ?_⟩
    · skip
      have c2 := h2
      (simp only [Bool.not_eq_true', Bool.not_eq_false', Bool.not_true, Bool.not_false, Bool.and_eq_true, Bool.or_eq_true, Bool.and_eq_false_iff, Bool.or_eq_false_iff, Bool.not_not, beq_true, beq_false, decide_eq_true_eq, decide_eq_false_iff_not] at c2)
      exact absurd h2 (by simp [gM])
    · skip
      have c2 := h2
      (simp only [Bool.not_eq_true', Bool.not_eq_false', Bool.not_true, Bool.not_false, Bool.and_eq_true, Bool.or_eq_true, Bool.and_eq_false_iff, Bool.or_eq_false_iff, Bool.not_not, beq_true, beq_false, decide_eq_true_eq, decide_eq_false_iff_not] at c2)
      have hj : j = 0 := Nat.le_zero.1 hx1
      subst hj
      repeat (refine Ob.mk ?_ ?_; (focus (first | omega | (exact fun hg => beq_t hg) | (exact fun hg => hg) | (intro hg; ((intro hq; exact and_i hg (beq_f hq)))))))
      refine ⟨fun h3 => ?_, fun h3 => ?_⟩
      · skip
        have c3 := h3
        (simp only [Bool.not_eq_true', Bool.not_eq_false', Bool.not_true, Bool.not_false, Bool.and_eq_true, Bool.or_eq_true, Bool.and_eq_false_iff, Bool.or_eq_false_iff, Bool.not_not, beq_true, beq_false, decide_eq_true_eq, decide_eq_false_iff_not] at c3)
        exact absurd h3 (by simp [gK, Tr.c, ho])
      · skip
        have c3 := h3
        (simp only [Bool.not_eq_true', Bool.not_eq_false', Bool.not_true, Bool.not_false, Bool.and_eq_true, Bool.or_eq_true, Bool.and_eq_false_iff, Bool.or_eq_false_iff, Bool.not_not, beq_true, beq_false, decide_eq_true_eq, decide_eq_false_iff_not] at c3)
        repeat (refine Ob.mk ?_ ?_; focus (first | (exact fun _ _ _ _ => rfl) | (exact Eq.refl _)))
        trivial
set_option maxRecDepth 100000 in
set_option maxHeartbeats 4000000 in
theorem cf_grow10O {p : List Bool} {o : List UInt8} {R : List Nd} {s : Nat} (hp : p.length ≤ 32) {xp0 : List Bool} {xo0 : List UInt8} {xl0 xr0 : Tr} {A : List Nd} (hp0 : xp0.length ≤ 32) (hb0 : p ++ [false] <+: xp0) (hL0 : 0 < A.length) (g0 : Cf Try.prog 30 [] [nodesE (A)] [] (.tup [nodeE xp0 xo0 xl0 xr0, nodesE ([] : List Nd), .b true])) (hs : s = (A).length + 1) (ho : o ≠ []) (hn : ((A) ++ R).length + 1 ≤ 1000000) : Cf Try.prog 30 [] [nodesE (⟨p, o, s⟩ :: ((A) ++ R))] [] (.tup [nodeE p o (Tr.node xp0 xo0 xl0 xr0) .nil, nodesE R, .b true]) := by
  have e0 : (((⟨p, o, s⟩ : Nd) :: ((A) ++ R)).getD 0 default).s = s := rfl
  have e1 : ((⟨p, o, s⟩ : Nd) :: ((A) ++ R)).length = ((A) ++ R).length + 1 := rfl
  have e2 : ((A) ++ R).length = (A).length + R.length := List.length_append
  have hl : p.length < 32 := by have := hb0.length_le; simp at this; omega
  refine Cf.introR tabT {} (DR _ _ _ tabT {}) (by kernel_rfl) tab_ok Try.func30 Try.ntmps30 rfl rfl (DR_ok tab_ok (by kernel_rfl)) (by kernel_rfl) ?_
  repeat (refine Ob.mk ?_ ?_; (focus (first | (intro _; exact Eq.refl _) | omega | (exact fun hg => beq_f hg) | (exact fun hg => hg))))
  refine gx2 (cf_nCheck hp) (fun hk => ⟨fun _ => hk, ?_⟩)
  repeat (refine Ob.mk ?_ ?_; (focus (first | (intro _; exact Eq.refl _) | (exact fun hg => beq_f hg) | (exact fun hg => hg))))
  refine ⟨fun h1 => ?_, fun h1 => ?_⟩
  · skip
    (simp only [Int.reduceToNat, UInt8.reduceOfNat] at h1)
    have c1 := h1
    (simp only [Bool.not_eq_true', Bool.not_eq_false', Bool.not_true, Bool.not_false, Bool.and_eq_true, Bool.or_eq_true, Bool.and_eq_false_iff, Bool.or_eq_false_iff, Bool.not_not, beq_true, beq_false, decide_eq_true_eq, decide_eq_false_iff_not] at c1)
    exfalso; simp only [Bool.or_eq_true, decide_eq_true_eq, decide_true, Bool.not_true, Bool.false_eq_true, or_false] at h1; omega
  · skip
    (simp only [Int.reduceToNat, UInt8.reduceOfNat] at h1)
    have c1 := h1
    (simp only [Bool.not_eq_true', Bool.not_eq_false', Bool.not_true, Bool.not_false, Bool.and_eq_true, Bool.or_eq_true, Bool.and_eq_false_iff, Bool.or_eq_false_iff, Bool.not_not, beq_true, beq_false, decide_eq_true_eq, decide_eq_false_iff_not] at c1)
    refine ⟨[0, 1, 3, 7, 0, 16, 48, 112, 255, 511, 1023], by kernel_rfl, ?_⟩
    repeat (refine Ob.mk ?_ ?_; focus (omega))
    refine ⟨[0, 0, 2, 6, 14, 31, 0, 0, 128, 384, 896, 1984, 63, 8191], by kernel_rfl, ?_⟩
    repeat (refine Ob.mk ?_ ?_; (focus (first | omega | (simp [SrcE.len]; omega))))
    refine ⟨Nat, fun j => ⟨[(5, .own 1048 0), (6, nodesE (gM [(A)] j)), (7, nodesE R)], [(1048, .box [.u32 (adr p), .i (p.length : Int), .s o, .rp (gK [none, (Tr.node xp0 xo0 xl0 xr0).c] j), .rp (gK [none, none] j)] 61)]⟩, fun j => j ≤ 1, fun j => 1 - j, 0, by omega, ?_, fun j hx1 => ?_⟩
    · skip
      repeat (refine Ob.mk ?_ ?_; (focus (first | (show s - 1 = (A).length; omega) | (exact gr_mine hs) | (exact gr_rest hs) | (exact Eq.refl _) | (simp [SrcE.len]; omega))))
      trivial
    refine ⟨fun h2 => ?_, fun h2 => ?_⟩
    · skip
      have c2 := h2
      (simp only [Bool.not_eq_true', Bool.not_eq_false', Bool.not_true, Bool.not_false, Bool.and_eq_true, Bool.or_eq_true, Bool.and_eq_false_iff, Bool.or_eq_false_iff, Bool.not_not, beq_true, beq_false, decide_eq_true_eq, decide_eq_false_iff_not] at c2)
      have hj : j < 1 := gM_lt (l := [(A)]) (by omega)
      rcases (by omega : j = 0) with rfl
      · skip
        refine ⟨_, _, _, _, g0, ?_⟩
        repeat (refine Ob.mk ?_ ?_; focus (first | (exact fun _ _ _ _ => rfl) | (exact Eq.refl _)))
        refine ⟨[0, 1, 3, 7, 15, 31, 63, 7, 135, 391, 903, 2047, 4095, 8191], by kernel_rfl, ?_⟩
        repeat (refine Ob.mk ?_ ?_; (focus (((intro _; exact Eq.refl _)))))
        refine gx2 (cf_below hp hp0 hb0) (fun hk => ⟨fun _ => hk, ?_⟩)
        repeat (refine Ob.mk ?_ ?_; (focus (((intro _; exact Eq.refl _)))))
        refine ⟨fun h3 => ?_, fun h3 => ?_⟩
        · skip
          have c3 := h3
          (simp only [Bool.not_eq_true', Bool.not_eq_false', Bool.not_true, Bool.not_false, Bool.and_eq_true, Bool.or_eq_true, Bool.and_eq_false_iff, Bool.or_eq_false_iff, Bool.not_not, beq_true, beq_false, decide_eq_true_eq, decide_eq_false_iff_not] at c3)
          exact absurd (show false = true from h3) (by decide)
        · skip
          have c3 := h3
          (simp only [Bool.not_eq_true', Bool.not_eq_false', Bool.not_true, Bool.not_false, Bool.and_eq_true, Bool.or_eq_true, Bool.and_eq_false_iff, Bool.or_eq_false_iff, Bool.not_not, beq_true, beq_false, decide_eq_true_eq, decide_eq_false_iff_not] at c3)
          refine ⟨[0, 1, 3, 7, 0, 16, 48, 112, 255, 511], by kernel_rfl, ?_⟩
          refine ⟨_, _, _, _, (cf_side hl (bit_of hb0)), ?_⟩
          repeat (refine Ob.mk ?_ ?_; (focus (first | (exact Eq.refl _) | (intro _; exact Eq.refl _) | omega | (simp [SrcE.len]; done))))
          refine ⟨fun h4 => ?_, fun h4 => ?_⟩
          · skip
            have c4 := h4
            (simp only [Bool.not_eq_true', Bool.not_eq_false', Bool.not_true, Bool.not_false, Bool.and_eq_true, Bool.or_eq_true, Bool.and_eq_false_iff, Bool.or_eq_false_iff, Bool.not_not, beq_true, beq_false, decide_eq_true_eq, decide_eq_false_iff_not] at c4)
            exact absurd (show false = true from h4) (by decide)
          · skip
            have c4 := h4
            (simp only [Bool.not_eq_true', Bool.not_eq_false', Bool.not_true, Bool.not_false, Bool.and_eq_true, Bool.or_eq_true, Bool.and_eq_false_iff, Bool.or_eq_false_iff, Bool.not_not, beq_true, beq_false, decide_eq_true_eq, decide_eq_false_iff_not] at c4)
            repeat (refine Ob.mk ?_ ?_; (focus (((simp [SrcE.len]; done)))))
            refine ⟨0 + 1, (by assumption), (by assumption), ?_⟩
            repeat (refine Ob.mk ?_ ?_; focus (first | (exact fun _ _ _ _ => rfl) | (exact Eq.refl _)))
            trivial
    · skip
      have c2 := h2
      (simp only [Bool.not_eq_true', Bool.not_eq_false', Bool.not_true, Bool.not_false, Bool.and_eq_true, Bool.or_eq_true, Bool.and_eq_false_iff, Bool.or_eq_false_iff, Bool.not_not, beq_true, beq_false, decide_eq_true_eq, decide_eq_false_iff_not] at c2)
      have hj : j = 1 := gM_end1 hx1 c2 hL0
      subst hj
      repeat (refine Ob.mk ?_ ?_; (focus (first | omega | (exact fun hg => beq_t hg) | (exact fun hg => hg) | (intro hg; ((intro hq; exact and_i hg (beq_f hq)))))))
      refine ⟨fun h5 => ?_, fun h5 => ?_⟩
      · skip
        have c5 := h5
        (simp only [Bool.not_eq_true', Bool.not_eq_false', Bool.not_true, Bool.not_false, Bool.and_eq_true, Bool.or_eq_true, Bool.and_eq_false_iff, Bool.or_eq_false_iff, Bool.not_not, beq_true, beq_false, decide_eq_true_eq, decide_eq_false_iff_not] at c5)
        exact absurd h5 (by simp [gK, Tr.c, ho])
      · skip
        have c5 := h5
        (simp only [Bool.not_eq_true', Bool.not_eq_false', Bool.not_true, Bool.not_false, Bool.and_eq_true, Bool.or_eq_true, Bool.and_eq_false_iff, Bool.or_eq_false_iff, Bool.not_not, beq_true, beq_false, decide_eq_true_eq, decide_eq_false_iff_not] at c5)
        repeat (refine Ob.mk ?_ ?_; focus (first | (exact fun _ _ _ _ => rfl) | (exact Eq.refl _)))
        trivial
set_option maxRecDepth 100000 in
set_option maxHeartbeats 4000000 in
theorem cf_grow01O {p : List Bool} {o : List UInt8} {R : List Nd} {s : Nat} (hp : p.length ≤ 32) {xp0 : List Bool} {xo0 : List UInt8} {xl0 xr0 : Tr} {A : List Nd} (hp0 : xp0.length ≤ 32) (hb0 : p ++ [true] <+: xp0) (hL0 : 0 < A.length) (g0 : Cf Try.prog 30 [] [nodesE (A)] [] (.tup [nodeE xp0 xo0 xl0 xr0, nodesE ([] : List Nd), .b true])) (hs : s = (A).length + 1) (ho : o ≠ []) (hn : ((A) ++ R).length + 1 ≤ 1000000) : Cf Try.prog 30 [] [nodesE (⟨p, o, s⟩ :: ((A) ++ R))] [] (.tup [nodeE p o .nil (Tr.node xp0 xo0 xl0 xr0), nodesE R, .b true]) := by
  have e0 : (((⟨p, o, s⟩ : Nd) :: ((A) ++ R)).getD 0 default).s = s := rfl
  have e1 : ((⟨p, o, s⟩ : Nd) :: ((A) ++ R)).length = ((A) ++ R).length + 1 := rfl
  have e2 : ((A) ++ R).length = (A).length + R.length := List.length_append
  have hl : p.length < 32 := by have := hb0.length_le; simp at this; omega
  refine Cf.introR tabT {} (DR _ _ _ tabT {}) (by kernel_rfl) tab_ok Try.func30 Try.ntmps30 rfl rfl (DR_ok tab_ok (by kernel_rfl)) (by kernel_rfl) ?_
  repeat (refine Ob.mk ?_ ?_; (focus (first | (intro _; exact Eq.refl _) | omega | (exact fun hg => beq_f hg) | (exact fun hg => hg))))
  refine gx2 (cf_nCheck hp) (fun hk => ⟨fun _ => hk, ?_⟩)
  repeat (refine Ob.mk ?_ ?_; (focus (first | (intro _; exact Eq.refl _) | (exact fun hg => beq_f hg) | (exact fun hg => hg))))
  refine ⟨fun h1 => ?_, fun h1 => ?_⟩
  · skip
    (simp only [Int.reduceToNat, UInt8.reduceOfNat] at h1)
    have c1 := h1
    (simp only [Bool.not_eq_true', Bool.not_eq_false', Bool.not_true, Bool.not_false, Bool.and_eq_true, Bool.or_eq_true, Bool.and_eq_false_iff, Bool.or_eq_false_iff, Bool.not_not, beq_true, beq_false, decide_eq_true_eq, decide_eq_false_iff_not] at c1)
    exfalso; simp only [Bool.or_eq_true, decide_eq_true_eq, decide_true, Bool.not_true, Bool.false_eq_true, or_false] at h1; omega
  · skip
    (simp only [Int.reduceToNat, UInt8.reduceOfNat] at h1)
    have c1 := h1
    (simp only [Bool.not_eq_true', Bool.not_eq_false', Bool.not_true, Bool.not_false, Bool.and_eq_true, Bool.or_eq_true, Bool.and_eq_false_iff, Bool.or_eq_false_iff, Bool.not_not, beq_true, beq_false, decide_eq_true_eq, decide_eq_false_iff_not] at c1)
    refine ⟨[0, 1, 3, 7, 0, 16, 48, 112, 255, 511, 1023], by kernel_rfl, ?_⟩
    repeat (refine Ob.mk ?_ ?_; focus (omega))
    refine ⟨[0, 0, 2, 6, 14, 31, 0, 0, 128, 384, 896, 1984, 63, 8191], by kernel_rfl, ?_⟩
    repeat (refine Ob.mk ?_ ?_; (focus (first | omega | (simp [SrcE.len]; omega))))
    refine ⟨Nat, fun j => ⟨[(5, .own 1048 0), (6, nodesE (gM [(A)] j)), (7, nodesE R)], [(1048, .box [.u32 (adr p), .i (p.length : Int), .s o, .rp (gK [none, none] j), .rp (gK [none, (Tr.node xp0 xo0 xl0 xr0).c] j)] 61)]⟩, fun j => j ≤ 1, fun j => 1 - j, 0, by omega, ?_, fun j hx1 => ?_⟩
    · skip
      repeat (refine Ob.mk ?_ ?_; (focus (first | (show s - 1 = (A).length; omega) | (exact gr_mine hs) | (exact gr_rest hs) | (exact Eq.refl _) | (simp [SrcE.len]; omega))))
      trivial
    refine ⟨fun h2 => ?_, fun h2 => ?_⟩
    · skip
      have c2 := h2
      (simp only [Bool.not_eq_true', Bool.not_eq_false', Bool.not_true, Bool.not_false, Bool.and_eq_true, Bool.or_eq_true, Bool.and_eq_false_iff, Bool.or_eq_false_iff, Bool.not_not, beq_true, beq_false, decide_eq_true_eq, decide_eq_false_iff_not] at c2)
      have hj : j < 1 := gM_lt (l := [(A)]) (by omega)
      rcases (by omega : j = 0) with rfl
      · skip
        refine ⟨_, _, _, _, g0, ?_⟩
        repeat (refine Ob.mk ?_ ?_; focus (first | (exact fun _ _ _ _ => rfl) | (exact Eq.refl _)))
        refine ⟨[0, 1, 3, 7, 15, 31, 63, 7, 135, 391, 903, 2047, 4095, 8191], by kernel_rfl, ?_⟩
        repeat (refine Ob.mk ?_ ?_; (focus (((intro _; exact Eq.refl _)))))
        refine gx2 (cf_below hp hp0 hb0) (fun hk => ⟨fun _ => hk, ?_⟩)
        repeat (refine Ob.mk ?_ ?_; (focus (((intro _; exact Eq.refl _)))))
        refine ⟨fun h3 => ?_, fun h3 => ?_⟩
        · skip
          have c3 := h3
          (simp only [Bool.not_eq_true', Bool.not_eq_false', Bool.not_true, Bool.not_false, Bool.and_eq_true, Bool.or_eq_true, Bool.and_eq_false_iff, Bool.or_eq_false_iff, Bool.not_not, beq_true, beq_false, decide_eq_true_eq, decide_eq_false_iff_not] at c3)
          exact absurd (show false = true from h3) (by decide)
        · skip
          have c3 := h3
          (simp only [Bool.not_eq_true', Bool.not_eq_false', Bool.not_true, Bool.not_false, Bool.and_eq_true, Bool.or_eq_true, Bool.and_eq_false_iff, Bool.or_eq_false_iff, Bool.not_not, beq_true, beq_false, decide_eq_true_eq, decide_eq_false_iff_not] at c3)
          refine ⟨[0, 1, 3, 7, 0, 16, 48, 112, 255, 511], by kernel_rfl, ?_⟩
          refine ⟨_, _, _, _, (cf_side hl (bit_of hb0)), ?_⟩
          repeat (refine Ob.mk ?_ ?_; (focus (first | (exact Eq.refl _) | (intro _; exact Eq.refl _) | omega | (simp [SrcE.len]; done))))
          refine ⟨fun h4 => ?_, fun h4 => ?_⟩
          · skip
            have c4 := h4
            (simp only [Bool.not_eq_true', Bool.not_eq_false', Bool.not_true, Bool.not_false, Bool.and_eq_true, Bool.or_eq_true, Bool.and_eq_false_iff, Bool.or_eq_false_iff, Bool.not_not, beq_true, beq_false, decide_eq_true_eq, decide_eq_false_iff_not] at c4)
            exact absurd (show false = true from h4) (by decide)
          · skip
            have c4 := h4
            (simp only [Bool.not_eq_true', Bool.not_eq_false', Bool.not_true, Bool.not_false, Bool.and_eq_true, Bool.or_eq_true, Bool.and_eq_false_iff, Bool.or_eq_false_iff, Bool.not_not, beq_true, beq_false, decide_eq_true_eq, decide_eq_false_iff_not] at c4)
            repeat (refine Ob.mk ?_ ?_; (focus (((simp [SrcE.len]; done)))))
            refine ⟨0 + 1, (by assumption), (by assumption), ?_⟩
            repeat (refine Ob.mk ?_ ?_; focus (first | (exact fun _ _ _ _ => rfl) | (exact Eq.refl _)))
            trivial
    · skip
      have c2 := h2
      (simp only [Bool.not_eq_true', Bool.not_eq_false', Bool.not_true, Bool.not_false, Bool.and_eq_true, Bool.or_eq_true, Bool.and_eq_false_iff, Bool.or_eq_false_iff, Bool.not_not, beq_true, beq_false, decide_eq_true_eq, decide_eq_false_iff_not] at c2)
      have hj : j = 1 := gM_end1 hx1 c2 hL0
      subst hj
      repeat (refine Ob.mk ?_ ?_; (focus (first | omega | (exact fun hg => beq_t hg) | (exact fun hg => hg) | (intro hg; ((intro hq; exact and_i hg (beq_f hq)))))))
      refine ⟨fun h5 => ?_, fun h5 => ?_⟩
      · skip
        have c5 := h5
        (simp only [Bool.not_eq_true', Bool.not_eq_false', Bool.not_true, Bool.not_false, Bool.and_eq_true, Bool.or_eq_true, Bool.and_eq_false_iff, Bool.or_eq_false_iff, Bool.not_not, beq_true, beq_false, decide_eq_true_eq, decide_eq_false_iff_not] at c5)
        exact absurd h5 (by simp [gK, Tr.c, ho])
      · skip
        have c5 := h5
        (simp only [Bool.not_eq_true', Bool.not_eq_false', Bool.not_true, Bool.not_false, Bool.and_eq_true, Bool.or_eq_true, Bool.and_eq_false_iff, Bool.or_eq_false_iff, Bool.not_not, beq_true, beq_false, decide_eq_true_eq, decide_eq_false_iff_not] at c5)
        repeat (refine Ob.mk ?_ ?_; focus (first | (exact fun _ _ _ _ => rfl) | (exact Eq.refl _)))
        trivial
set_option maxRecDepth 100000 in
set_option maxHeartbeats 4000000 in
theorem cf_grow11O {p : List Bool} {o : List UInt8} {R : List Nd} {s : Nat} (hp : p.length ≤ 32) {xp0 : List Bool} {xo0 : List UInt8} {xl0 xr0 : Tr} {A : List Nd} (hp0 : xp0.length ≤ 32) (hb0 : p ++ [false] <+: xp0) (hL0 : 0 < A.length) {xp1 : List Bool} {xo1 : List UInt8} {xl1 xr1 : Tr} {B : List Nd} (hp1 : xp1.length ≤ 32) (hb1 : p ++ [true] <+: xp1) (hL1 : 0 < B.length) (g0 : Cf Try.prog 30 [] [nodesE (A ++ B)] [] (.tup [nodeE xp0 xo0 xl0 xr0, nodesE (B), .b true])) (g1 : Cf Try.prog 30 [] [nodesE (B)] [] (.tup [nodeE xp1 xo1 xl1 xr1, nodesE ([] : List Nd), .b true])) (hs : s = (A ++ B).length + 1) (hn : ((A ++ B) ++ R).length + 1 ≤ 1000000) : Cf Try.prog 30 [] [nodesE (⟨p, o, s⟩ :: ((A ++ B) ++ R))] [] (.tup [nodeE p o (Tr.node xp0 xo0 xl0 xr0) (Tr.node xp1 xo1 xl1 xr1), nodesE R, .b true]) := by
  have e0 : (((⟨p, o, s⟩ : Nd) :: ((A ++ B) ++ R)).getD 0 default).s = s := rfl
  have e1 : ((⟨p, o, s⟩ : Nd) :: ((A ++ B) ++ R)).length = ((A ++ B) ++ R).length + 1 := rfl
  have e2 : ((A ++ B) ++ R).length = (A ++ B).length + R.length := List.length_append
  have e3 : (A ++ B).length = A.length + B.length := List.length_append
  have hl : p.length < 32 := by have := hb0.length_le; simp at this; omega
  refine Cf.introR tabT {} (DR _ _ _ tabT {}) (by kernel_rfl) tab_ok Try.func30 Try.ntmps30 rfl rfl (DR_ok tab_ok (by kernel_rfl)) (by kernel_rfl) ?_
  repeat (refine Ob.mk ?_ ?_; (focus (first | (intro _; exact Eq.refl _) | omega | (exact fun hg => beq_f hg) | (exact fun hg => hg))))
  refine gx2 (cf_nCheck hp) (fun hk => ⟨fun _ => hk, ?_⟩)
  repeat (refine Ob.mk ?_ ?_; (focus (first | (intro _; exact Eq.refl _) | (exact fun hg => beq_f hg) | (exact fun hg => hg))))
  refine ⟨fun h1 => ?_, fun h1 => ?_⟩
  · skip
    (simp only [Int.reduceToNat, UInt8.reduceOfNat] at h1)
    have c1 := h1
    (simp only [Bool.not_eq_true', Bool.not_eq_false', Bool.not_true, Bool.not_false, Bool.and_eq_true, Bool.or_eq_true, Bool.and_eq_false_iff, Bool.or_eq_false_iff, Bool.not_not, beq_true, beq_false, decide_eq_true_eq, decide_eq_false_iff_not] at c1)
    exfalso; simp only [Bool.or_eq_true, decide_eq_true_eq, decide_true, Bool.not_true, Bool.false_eq_true, or_false] at h1; omega
  · skip
    (simp only [Int.reduceToNat, UInt8.reduceOfNat] at h1)
    have c1 := h1
    (simp only [Bool.not_eq_true', Bool.not_eq_false', Bool.not_true, Bool.not_false, Bool.and_eq_true, Bool.or_eq_true, Bool.and_eq_false_iff, Bool.or_eq_false_iff, Bool.not_not, beq_true, beq_false, decide_eq_true_eq, decide_eq_false_iff_not] at c1)
    refine ⟨[0, 1, 3, 7, 0, 16, 48, 112, 255, 511, 1023], by kernel_rfl, ?_⟩
    repeat (refine Ob.mk ?_ ?_; focus (omega))
    refine ⟨[0, 0, 2, 6, 14, 31, 0, 0, 128, 384, 896, 1984, 63, 8191], by kernel_rfl, ?_⟩
    repeat (refine Ob.mk ?_ ?_; (focus (first | omega | (simp [SrcE.len]; omega))))
    refine ⟨Nat, fun j => ⟨[(5, .own 1048 0), (6, nodesE (gM [(A ++ B), (B)] j)), (7, nodesE R)], [(1048, .box [.u32 (adr p), .i (p.length : Int), .s o, .rp (gK [none, (Tr.node xp0 xo0 xl0 xr0).c, (Tr.node xp0 xo0 xl0 xr0).c] j), .rp (gK [none, none, (Tr.node xp1 xo1 xl1 xr1).c] j)] 61)]⟩, fun j => j ≤ 2, fun j => 2 - j, 0, by omega, ?_, fun j hx1 => ?_⟩
    · skip
      repeat (refine Ob.mk ?_ ?_; (focus (first | (show s - 1 = (A ++ B).length; omega) | (exact gr_mine hs) | (exact gr_rest hs) | (exact Eq.refl _) | (simp [SrcE.len]; omega))))
      trivial
    refine ⟨fun h2 => ?_, fun h2 => ?_⟩
    · skip
      have c2 := h2
      (simp only [Bool.not_eq_true', Bool.not_eq_false', Bool.not_true, Bool.not_false, Bool.and_eq_true, Bool.or_eq_true, Bool.and_eq_false_iff, Bool.or_eq_false_iff, Bool.not_not, beq_true, beq_false, decide_eq_true_eq, decide_eq_false_iff_not] at c2)
      have hj : j < 2 := gM_lt (l := [(A ++ B), (B)]) (by omega)
      rcases (by omega : j = 0 ∨ j = 1) with rfl | rfl
      · skip
        refine ⟨_, _, _, _, g0, ?_⟩
        repeat (refine Ob.mk ?_ ?_; focus (first | (exact fun _ _ _ _ => rfl) | (exact Eq.refl _)))
        refine ⟨[0, 1, 3, 7, 15, 31, 63, 7, 135, 391, 903, 2047, 4095, 8191], by kernel_rfl, ?_⟩
        repeat (refine Ob.mk ?_ ?_; (focus (((intro _; exact Eq.refl _)))))
        refine gx2 (cf_below hp hp0 hb0) (fun hk => ⟨fun _ => hk, ?_⟩)
        repeat (refine Ob.mk ?_ ?_; (focus (((intro _; exact Eq.refl _)))))
        refine ⟨fun h3 => ?_, fun h3 => ?_⟩
        · skip
          have c3 := h3
          (simp only [Bool.not_eq_true', Bool.not_eq_false', Bool.not_true, Bool.not_false, Bool.and_eq_true, Bool.or_eq_true, Bool.and_eq_false_iff, Bool.or_eq_false_iff, Bool.not_not, beq_true, beq_false, decide_eq_true_eq, decide_eq_false_iff_not] at c3)
          exact absurd (show false = true from h3) (by decide)
        · skip
          have c3 := h3
          (simp only [Bool.not_eq_true', Bool.not_eq_false', Bool.not_true, Bool.not_false, Bool.and_eq_true, Bool.or_eq_true, Bool.and_eq_false_iff, Bool.or_eq_false_iff, Bool.not_not, beq_true, beq_false, decide_eq_true_eq, decide_eq_false_iff_not] at c3)
          refine ⟨[0, 1, 3, 7, 0, 16, 48, 112, 255, 511], by kernel_rfl, ?_⟩
          refine ⟨_, _, _, _, (cf_side hl (bit_of hb0)), ?_⟩
          repeat (refine Ob.mk ?_ ?_; (focus (first | (exact Eq.refl _) | (intro _; exact Eq.refl _) | omega | (simp [SrcE.len]; done))))
          refine ⟨fun h4 => ?_, fun h4 => ?_⟩
          · skip
            have c4 := h4
            (simp only [Bool.not_eq_true', Bool.not_eq_false', Bool.not_true, Bool.not_false, Bool.and_eq_true, Bool.or_eq_true, Bool.and_eq_false_iff, Bool.or_eq_false_iff, Bool.not_not, beq_true, beq_false, decide_eq_true_eq, decide_eq_false_iff_not] at c4)
            exact absurd (show false = true from h4) (by decide)
          · skip
            have c4 := h4
            (simp only [Bool.not_eq_true', Bool.not_eq_false', Bool.not_true, Bool.not_false, Bool.and_eq_true, Bool.or_eq_true, Bool.and_eq_false_iff, Bool.or_eq_false_iff, Bool.not_not, beq_true, beq_false, decide_eq_true_eq, decide_eq_false_iff_not] at c4)
            repeat (refine Ob.mk ?_ ?_; (focus (((simp [SrcE.len]; done)))))
            refine ⟨0 + 1, (by assumption), (by (exact Nat.le_of_ble_eq_true rfl)), ?_⟩
            repeat (refine Ob.mk ?_ ?_; focus (first | (exact fun _ _ _ _ => rfl) | (exact Eq.refl _)))
            trivial
      · skip
        refine ⟨_, _, _, _, g1, ?_⟩
        repeat (refine Ob.mk ?_ ?_; focus (first | (exact fun _ _ _ _ => rfl) | (exact Eq.refl _)))
        refine ⟨[0, 1, 3, 7, 15, 31, 63, 7, 135, 391, 903, 2047, 4095, 8191], by kernel_rfl, ?_⟩
        repeat (refine Ob.mk ?_ ?_; (focus (((intro _; exact Eq.refl _)))))
        refine gx2 (cf_below hp hp1 hb1) (fun hk => ⟨fun _ => hk, ?_⟩)
        repeat (refine Ob.mk ?_ ?_; (focus (((intro _; exact Eq.refl _)))))
        refine ⟨fun h5 => ?_, fun h5 => ?_⟩
        · skip
          have c5 := h5
          (simp only [Bool.not_eq_true', Bool.not_eq_false', Bool.not_true, Bool.not_false, Bool.and_eq_true, Bool.or_eq_true, Bool.and_eq_false_iff, Bool.or_eq_false_iff, Bool.not_not, beq_true, beq_false, decide_eq_true_eq, decide_eq_false_iff_not] at c5)
          exact absurd (show false = true from h5) (by decide)
        · skip
          have c5 := h5
          (simp only [Bool.not_eq_true', Bool.not_eq_false', Bool.not_true, Bool.not_false, Bool.and_eq_true, Bool.or_eq_true, Bool.and_eq_false_iff, Bool.or_eq_false_iff, Bool.not_not, beq_true, beq_false, decide_eq_true_eq, decide_eq_false_iff_not] at c5)
          refine ⟨[0, 1, 3, 7, 0, 16, 48, 112, 255, 511], by kernel_rfl, ?_⟩
          refine ⟨_, _, _, _, (cf_side hl (bit_of hb1)), ?_⟩
          repeat (refine Ob.mk ?_ ?_; (focus (first | (exact Eq.refl _) | (intro _; exact Eq.refl _) | omega | (simp [SrcE.len]; done))))
          refine ⟨fun h6 => ?_, fun h6 => ?_⟩
          · skip
            have c6 := h6
            (simp only [Bool.not_eq_true', Bool.not_eq_false', Bool.not_true, Bool.not_false, Bool.and_eq_true, Bool.or_eq_true, Bool.and_eq_false_iff, Bool.or_eq_false_iff, Bool.not_not, beq_true, beq_false, decide_eq_true_eq, decide_eq_false_iff_not] at c6)
            exact absurd (show false = true from h6) (by decide)
          · skip
            have c6 := h6
            (simp only [Bool.not_eq_true', Bool.not_eq_false', Bool.not_true, Bool.not_false, Bool.and_eq_true, Bool.or_eq_true, Bool.and_eq_false_iff, Bool.or_eq_false_iff, Bool.not_not, beq_true, beq_false, decide_eq_true_eq, decide_eq_false_iff_not] at c6)
            repeat (refine Ob.mk ?_ ?_; (focus (((simp [SrcE.len]; done)))))
            refine ⟨1 + 1, (by assumption), (by (exact Nat.le_of_ble_eq_true rfl)), ?_⟩
            repeat (refine Ob.mk ?_ ?_; focus (first | (exact fun _ _ _ _ => rfl) | (exact Eq.refl _)))
            trivial
    · skip
      have c2 := h2
      (simp only [Bool.not_eq_true', Bool.not_eq_false', Bool.not_true, Bool.not_false, Bool.and_eq_true, Bool.or_eq_true, Bool.and_eq_false_iff, Bool.or_eq_false_iff, Bool.not_not, beq_true, beq_false, decide_eq_true_eq, decide_eq_false_iff_not] at c2)
      have hj : j = 2 := gM_end2 hx1 c2 hL0 hL1
      subst hj
      repeat (refine Ob.mk ?_ ?_; (focus (first | omega | (exact fun hg => beq_t hg) | (exact fun hg => hg) | (intro hg; ((intro hq; exact and_i hg (beq_f hq)))))))
      refine ⟨fun h7 => ?_, fun h7 => ?_⟩
      · skip
        have c7 := h7
        (simp only [Bool.not_eq_true', Bool.not_eq_false', Bool.not_true, Bool.not_false, Bool.and_eq_true, Bool.or_eq_true, Bool.and_eq_false_iff, Bool.or_eq_false_iff, Bool.not_not, beq_true, beq_false, decide_eq_true_eq, decide_eq_false_iff_not] at c7)
        exact absurd h7 (by simp [gK, Tr.c])
      · skip
        have c7 := h7
        (simp only [Bool.not_eq_true', Bool.not_eq_false', Bool.not_true, Bool.not_false, Bool.and_eq_true, Bool.or_eq_true, Bool.and_eq_false_iff, Bool.or_eq_false_iff, Bool.not_not, beq_true, beq_false, decide_eq_true_eq, decide_eq_false_iff_not] at c7)
        repeat (refine Ob.mk ?_ ?_; focus (first | (exact fun _ _ _ _ => rfl) | (exact Eq.refl _)))
        trivial
end Go.Proofs.Ytcdoobkaobiacaa
