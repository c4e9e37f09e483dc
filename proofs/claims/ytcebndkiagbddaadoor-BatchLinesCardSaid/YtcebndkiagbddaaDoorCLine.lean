/- package line: contracts. -/
import Derived.Test.YtcebndkiagbddaaDoorCStrs
namespace Go.Proofs.YtcebndkiagbddaaDoor
open Go.RowKit
set_option linter.unusedVariables false
set_option linter.unusedSimpArgs false

def lnc (x : LnP) : Nat → EV
  | 0 => .s x.1
  | _ => .s x.2
abbrev lnF (L : List LnP) : Nat → Nat → EV := fun i j => lnc (L.getD i ([], [])) j
abbrev linesE (L : List LnP) : EV := .lz L.length 2 (lnF L)
theorem ln_snoc {n sz : Nat} {f g : Nat → Nat → EV} {m : List EV} (h1 : ∀ a, a < n → ∀ j, j < sz → f a j = g a j) (h2 : ∀ j, j < sz → m.getD j .any = g n j) : ∀ a, a < n + 1 → ∀ j, j < sz → (bif Nat.blt a n then f a j else m.getD ((a - n) * sz + j) .any) = g a j := by
  intro a ha j hj
  by_cases hq : a < n
  · have : Nat.blt a n = true := by simpa [Nat.blt_eq] using hq
    rw [this]; exact h1 a hq j hj
  · obtain rfl : a = n := by omega
    have : Nat.blt a a = false := by cases hb : Nat.blt a a with | false => rfl | true => (rw [Nat.blt_eq] at hb; omega)
    rw [this, Nat.sub_self, Nat.zero_mul, Nat.zero_add]; exact h2 j hj
theorem lnF_cut (L : List (List UInt8)) : ∀ i, i < L.length → ∀ j, j < 2 → (fun a b => lnc (cutP (L.getD a [])) b) i j = lnF (L.map cutP) i j := by
  intro i hi j hj
  show lnc (cutP (L.getD i [])) j = lnc ((L.map cutP).getD i ([], [])) j
  rw [List.getD_eq_getElem?_getD, List.getD_eq_getElem?_getD, List.getElem?_map, List.getElem?_eq_getElem hi]; rfl
set_option maxRecDepth 100000 in
set_option maxHeartbeats 4000000 in
theorem cf_LCutInO {l : List UInt8} {c : UInt8} (h : c ∈ l) (hl : l.length ≤ 1100000) : Cf Tryd.prog 69 [] [.s l, .s [c]] [] (.tup [.s (bef c l), .s (aft c l), .b true]) := by
  have hT1 : (((bef c l).length : Nat) : Int).toNat = (bef c l).length := by omega
  have hT2 : (((bef c l).length : Int) + ((([c] : List UInt8).length : Nat) : Int)).toNat = (bef c l).length + 1 := by simp only [List.length_singleton]; omega
  have hT3 : ((([c] : List UInt8).length : Nat) : Int) = 1 := rfl
  have hI := cf_IndexL1 (l := l) (c := c)
  rw [ixb_in h] at hI
  have hle : (bef c l).length + (aft c l).length + 1 = l.length := by rw [← congrArg List.length (bef_aft h)]; simp; omega
  refine Cf.introR tabT {} (DR _ _ _ tabT {}) (by kernel_rfl) tab_ok Tryd.func69 Tryd.ntmps69 rfl rfl (DR_ok tab_ok (by kernel_rfl)) (by kernel_rfl) ?_
  refine ⟨_, _, _, _, hI, ?_⟩
  repeat (refine Ob.mk ?_ ?_; focus ((exact Eq.refl _)))
  refine ⟨fun h1 => ?_, fun h1 => ?_⟩
  · skip
    have c1 := h1
    (simp only [bsX] at c1)
    refine ⟨[0, 0, 3, 0, 0, 0, 32, 112, 248, 7, 1023, 2047], by kernel_rfl, ?_⟩
    repeat (refine Ob.mk ?_ ?_; (focus (first | (rw [hT3]; omega) | (show List.drop ((((bef c l).length : Int) + ((([c] : List UInt8).length : Nat) : Int)).toNat) l = _; rw [hT2]; exact drop_aft h) | (show List.take ((((bef c l).length : Nat) : Int).toNat) l = _; rw [hT1]; exact take_bef h) | (exact Eq.refl _) | omega)))
    trivial
  · skip
    have c1 := h1
    (simp only [bsX] at c1)
    exfalso; simp at h1
set_option maxRecDepth 100000 in
set_option maxHeartbeats 4000000 in
theorem cf_LCutNoO {l : List UInt8} {c : UInt8} (h : c ∉ l) : Cf Tryd.prog 69 [] [.s l, .s [c]] [] (.tup [.s l, .s [], .b false]) := by
  have hI := cf_IndexL1 (l := l) (c := c)
  rw [ixb_out h] at hI
  refine Cf.introR tabT {} (DR _ _ _ tabT {}) (by kernel_rfl) tab_ok Tryd.func69 Tryd.ntmps69 rfl rfl (DR_ok tab_ok (by kernel_rfl)) (by kernel_rfl) ?_
  refine ⟨_, _, _, _, hI, ?_⟩
  repeat (refine Ob.mk ?_ ?_; focus ((exact Eq.refl _)))
  refine ⟨fun h1 => ?_, fun h1 => ?_⟩
  · skip
    have c1 := h1
    (simp only [bsX] at c1)
    exact absurd (show false = true from h1) (by decide)
  · skip
    have c1 := h1
    (simp only [bsX] at c1)
    repeat (refine Ob.mk ?_ ?_; focus ((exact Eq.refl _)))
    trivial
theorem cf_LCut {l : List UInt8} {c : UInt8} (hl : l.length ≤ 1100000) : Cf Tryd.prog 69 [] [.s l, .s [c]] [] (.tup [.s (bef c l), .s (aft c l), .b (decide (c ∈ l))]) := by
  by_cases h : c ∈ l
  · rw [decide_eq_true h]; exact cf_LCutInO h hl
  · rw [decide_eq_false h, bef_out h, aft_out h]; exact cf_LCutNoO h
set_option maxRecDepth 100000 in
set_option maxHeartbeats 4000000 in
theorem cf_Cut1 {l : List UInt8} {c : UInt8} (hl : l.length ≤ 1100000) : Cf Tryd.prog 51 [] [.s l, .s [c]] [] (.tup [.s (bef c l), .s (aft c l), .b (decide (c ∈ l))]) := by
  refine Cf.introR tabT {} D0 (by kernel_rfl) tab_ok Tryd.func51 Tryd.ntmps51 rfl rfl (D0_ok) (by kernel_rfl) ?_
  refine ⟨_, _, _, _, (cf_LCut (l := l) (c := c) hl), ?_⟩
  repeat (refine Ob.mk ?_ ?_; focus ((exact Eq.refl _)))
  trivial
set_option maxRecDepth 100000 in
set_option maxHeartbeats 4000000 in
theorem cf_lnCheck {k v : List UInt8} : Cf Tryd.prog 54 [] [.agg [.s k, .s v]] [] (.i (lnC k v)) := by
  refine Cf.introR tabT {} D0 (by kernel_rfl) tab_ok Tryd.func54 Tryd.ntmps54 rfl rfl (D0_ok) (by kernel_rfl) ?_
  repeat (refine Ob.mk ?_ ?_; focus (first | (exact fun hg => beq_f hg) | (exact fun hg => hg)))
  refine ⟨fun h1 => ?_, fun h1 => ?_⟩
  · skip
    have c1 := h1
    (simp only [bsX] at c1)
    have hR : lnC k v = 1 := by unfold lnC; exact if_pos (by omega)
    repeat (refine Ob.mk ?_ ?_; (focus (((rw [hR]; done)))))
    trivial
  · skip
    have c1 := h1
    (simp only [bsX] at c1)
    have hG : ¬ (k.length < 1 ∨ 30 < k.length ∨ 70 < v.length) := by omega
    refine ⟨Nat, fun i => ⟨[(1, .own 1001 0), (25, .i (k.length : Int)), (26, .i (i : Int))], [(1001, .box [.s k, .s v] 55)]⟩, fun i => i ≤ k.length ∧ (k.take i).all okK = true, fun i => k.length - i, 0, (by simp), ?_, fun i hx1 => ?_⟩
    · skip
      repeat (refine Ob.mk ?_ ?_; focus ((exact Eq.refl _)))
      trivial
    refine ⟨fun h2 => ?_, fun h2 => ?_⟩
    · skip
      have c2 := h2
      (simp only [bsX] at c2)
      have hi : i < k.length := by omega
      repeat (refine Ob.mk ?_ ?_; focus (first | omega | (exact fun hg => beq_t hg) | (exact fun hg => beq_f hg) | (exact fun hg => hg)))
      refine ⟨fun h3 => ?_, fun h3 => ?_⟩
      · skip
        (simp only [Int.reduceToNat, UInt8.reduceOfNat] at h3)
        have c3 := h3
        (simp only [bsX] at c3)
        have hR : lnC k v = 3 := lnC_bad1 hG hi (okK_no (by simpa using h3))
        repeat (refine Ob.mk ?_ ?_; (focus (((rw [hR]; done)))))
        trivial
      · skip
        (simp only [Int.reduceToNat, UInt8.reduceOfNat] at h3)
        have c3 := h3
        (simp only [bsX] at c3)
        have hx := take_all hi hx1.2 (f := okK) (okK_yes (by simpa using h3))
        repeat (refine Ob.mk ?_ ?_; focus (omega))
        refine ⟨i + 1, (by (simp_all; omega)), (by (simp only [SrcE.len, Nat.zero_add, List.length_append, List.length_cons, List.length_nil]; omega)), ?_⟩
        repeat (refine Ob.mk ?_ ?_; focus ((exact Eq.refl _)))
        trivial
    · skip
      have c2 := h2
      (simp only [bsX] at c2)
      have hi : i = k.length := by have := hx1.1; omega
      subst hi
      refine ⟨Nat, fun j => ⟨[(1, .own 1001 0), (46, .i (v.length : Int)), (47, .i (j : Int))], [(1001, .box [.s k, .s v] 55)]⟩, fun j => j ≤ v.length ∧ (v.take j).all okV = true, fun j => v.length - j, 0, (by simp), ?_, fun j hx2 => ?_⟩
      · skip
        repeat (refine Ob.mk ?_ ?_; focus ((exact Eq.refl _)))
        trivial
      refine ⟨fun h4 => ?_, fun h4 => ?_⟩
      · skip
        have c4 := h4
        (simp only [bsX] at c4)
        have hj : j < v.length := by omega
        repeat (refine Ob.mk ?_ ?_; focus (first | omega | (exact fun hg => beq_f hg) | (exact fun hg => hg)))
        refine ⟨fun h5 => ?_, fun h5 => ?_⟩
        · skip
          (simp only [Int.reduceToNat, UInt8.reduceOfNat] at h5)
          have c5 := h5
          (simp only [bsX] at c5)
          have hR : lnC k v = 3 := lnC_bad2 hG hj (okV_no (by simpa using h5))
          repeat (refine Ob.mk ?_ ?_; (focus (((rw [hR]; done)))))
          trivial
        · skip
          (simp only [Int.reduceToNat, UInt8.reduceOfNat] at h5)
          have c5 := h5
          (simp only [bsX] at c5)
          have hy := take_all hj hx2.2 (f := okV) (okV_yes (by simpa using h5))
          repeat (refine Ob.mk ?_ ?_; focus (omega))
          refine ⟨j + 1, (by (simp_all; omega)), (by (simp only [SrcE.len, Nat.zero_add, List.length_append, List.length_cons, List.length_nil]; omega)), ?_⟩
          repeat (refine Ob.mk ?_ ?_; focus ((exact Eq.refl _)))
          trivial
      · skip
        have c4 := h4
        (simp only [bsX] at c4)
        have hj : j = v.length := by have := hx2.1; omega
        subst hj
        have hR := lnC_good hG hx1.2 hx2.2
        repeat (refine Ob.mk ?_ ?_; (focus (((rw [hR]; done)))))
        trivial
set_option maxRecDepth 100000 in
set_option maxHeartbeats 4000000 in
theorem cf_lnSplit {s : List UInt8} : Cf Tryd.prog 31 [] [.s s] [] (.tup [linesE (splitR s).1, .i (splitR s).2.1, .i (splitR s).2.2]) := by
  refine Cf.introR tabT {nl := [(6, 55, 2)]} D0 (by kernel_rfl) tab_ok Tryd.func31 Tryd.ntmps31 rfl rfl (D0_ok) (by kernel_rfl) ?_
  refine ⟨fun h1 => ?_, fun h1 => ?_⟩
  · skip
    have c1 := h1
    (simp only [bsX] at c1)
    have hR : splitR s = ([], 0, 1) := by unfold splitR; rw [if_pos (by omega)]
    repeat (refine Ob.mk ?_ ?_; (focus (first | (rw [hR]; done) | (simp_all; done))))
    trivial
  · skip
    have c1 := h1
    (simp only [bsX] at c1)
    refine ⟨fun h2 => ?_, fun h2 => ?_⟩
    · skip
      have c2 := h2
      (simp only [bsX] at c2)
      have hR : splitR s = ([], 0, 0) := by unfold splitR; rw [if_neg (by omega), if_pos (by simpa using h2)]
      repeat (refine Ob.mk ?_ ?_; (focus (first | (rw [hR]; done) | (simp_all; done))))
      trivial
    · skip
      have c2 := h2
      (simp only [bsX] at c2)
      refine ⟨_, _, _, _, (cf_Split (l := s) (c := 10) (by omega)), ?_⟩
      repeat (refine Ob.mk ?_ ?_; focus ((exact Eq.refl _)))
      refine ⟨fun h3 => ?_, fun h3 => ?_⟩
      · skip
        have c3 := h3
        (simp only [bsX] at c3)
        have hR : splitR s = ([], 0, 1) := by unfold splitR; rw [if_neg (by omega), if_neg (by simpa using h2), if_pos (by omega)]
        repeat (refine Ob.mk ?_ ?_; (focus (first | (rw [hR]; done) | (simp_all; done))))
        trivial
      · skip
        have c3 := h3
        (simp only [bsX] at c3)
        have hS : splitR s = lnR [] 0 (spl 10 s) := by unfold splitR; rw [if_neg (by omega), if_neg (by simpa using h2), if_neg (by omega)]
        refine ⟨Nat, fun i => ⟨[(6, .osl 1006 i), (24, strsE (spl 10 s)), (25, .i ((spl 10 s).length : Int)), (26, .i (i : Int))], [(1006, .rz i 2 (fun a b => lnc (cutP ((spl 10 s).getD a [])) b) 55 0)]⟩, fun i => i ≤ (spl 10 s).length ∧ lnR (((spl 10 s).take i).map cutP) i ((spl 10 s).drop i) = lnR [] 0 (spl 10 s), fun i => (spl 10 s).length - i, 0, ⟨Nat.zero_le _, rfl⟩, ?_, fun i hx1 => ?_⟩
        · skip
          repeat (refine Ob.mk ?_ ?_; (focus (first | (exact Eq.refl _) | omega | (intro hg; ((intro hq; ((simp_all; done))))))))
          trivial
        refine ⟨fun h4 => ?_, fun h4 => ?_⟩
        · skip
          have c4 := h4
          (simp only [bsX] at c4)
          have hi : i < (spl 10 s).length := by omega
          have hL := lnR_at hi (((spl 10 s).take i).map cutP)
          rw [hx1.2] at hL
          have hpl := spl_at (c := 10) (l := s) i
          repeat (refine Ob.mk ?_ ?_; focus (first | assumption | omega))
          refine ⟨_, _, _, _, (cf_Cut1 (l := (spl 10 s).getD i []) (c := 61) (by omega)), ?_⟩
          repeat (refine Ob.mk ?_ ?_; focus ((exact Eq.refl _)))
          refine ⟨fun h5 => ?_, fun h5 => ?_⟩
          · skip
            have c5 := h5
            (simp only [bsX] at c5)
            have hm : (61 : UInt8) ∉ (spl 10 s).getD i [] := by simpa using h5
            rw [if_neg hm] at hL
            have hR := hS.trans hL
            repeat (refine Ob.mk ?_ ?_; (focus (first | (rw [hR]; done) | omega | (simp_all; done))))
            trivial
          · skip
            have c5 := h5
            (simp only [bsX] at c5)
            have hm : (61 : UInt8) ∈ (spl 10 s).getD i [] := by simpa using h5
            rw [if_pos hm] at hL
            refine ⟨_, _, _, _, (cf_lnCheck (k := bef 61 ((spl 10 s).getD i [])) (v := aft 61 ((spl 10 s).getD i []))), ?_⟩
            repeat (refine Ob.mk ?_ ?_; focus ((exact Eq.refl _)))
            refine ⟨fun h6 => ?_, fun h6 => ?_⟩
            · skip
              have c6 := h6
              (simp only [bsX] at c6)
              rw [if_neg (by simpa using h6)] at hL
              have hR := hS.trans hL
              repeat (refine Ob.mk ?_ ?_; (focus (first | (rw [hR]; done) | omega | (simp_all; done))))
              trivial
            · skip
              have c6 := h6
              (simp only [bsX] at c6)
              rw [if_pos (by simpa using h6), ← accL_succ hi] at hL
              have hx := hL.symm
              repeat (refine Ob.mk ?_ ?_; (focus (first | (exact Eq.refl _) | omega | (simp only [SrcE.len, Nat.zero_add, List.length_append, List.length_cons, List.length_nil]; omega))))
              refine ⟨i + 1, (by (simp_all; omega)), (by (simp only [SrcE.len, Nat.zero_add, List.length_append, List.length_cons, List.length_nil]; omega)), ?_⟩
              repeat (refine Ob.mk ?_ ?_; (focus (first | (exact ln_snoc (fun _ _ _ _ => rfl) (fun j hj => by (have hj2 : j = 0 ∨ j = 1 := by omega); rcases hj2 with rfl | rfl <;> exact Eq.refl _)) | (exact Eq.refl _) | (exact Nat.le_of_ble_eq_true rfl) | (intro hg; ((intro hq; ((simp_all; done))))))))
              trivial
        · skip
          have c4 := h4
          (simp only [bsX] at c4)
          have hi : i = (spl 10 s).length := by have := hx1.1; omega
          subst hi
          have hR : splitR s = ((spl 10 s).map cutP, 0, 0) := by rw [hS, ← hx1.2, lnR_end, List.take_length]
          have hml : ((spl 10 s).map cutP).length = (spl 10 s).length := List.length_map ..
          repeat (refine Ob.mk ?_ ?_; (focus (first | (rw [hR]; done) | (rw [hR]; exact hml.symm) | (rw [hR]; exact lnF_cut _) | (exact Eq.refl _))))
          trivial
theorem join_len {L : List LnP} (h : ∀ x ∈ L, lnC x.1 x.2 = 0) (h2 : L.length ≤ 60) : (L.map ltxt).length ≤ 1100000 ∧ (Lib.join (L.map ltxt) [10]).length ≤ 1100000 := by
  have := jtx_len h
  unfold jtx at this
  exact ⟨by rw [List.length_map]; omega, by omega⟩
end Go.Proofs.YtcebndkiagbddaaDoor
