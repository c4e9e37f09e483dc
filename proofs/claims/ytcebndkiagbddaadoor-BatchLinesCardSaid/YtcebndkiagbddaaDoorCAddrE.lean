/- Addresses and endpoints of texts: contracts. -/
import Derived.Test.YtcebndkiagbddaaDoorCLine
import Derived.Test.YtcebndkiagbddaaDoorBatchF
import Derived.Test.YtcebndkiagbddaaDoorCNet
namespace Go.Proofs.YtcebndkiagbddaaDoor
open Go.RowKit Go.Lib
set_option linter.unusedVariables false
set_option linter.unusedSimpArgs false

theorem small_no {s : List UInt8} (h : ((s.length : Int) < 1 ∨ 5 < (s.length : Int)) ∨ (1 < (s.length : Int) ∧ s.getD 0 0 = 48)) : ¬ numOk s := fun ⟨k1, k2, k3, _⟩ => by
  rcases h with (h | h) | ⟨h, h2⟩
  · omega
  · omega
  · exact k3 (by omega) h2
theorem small_yes {s : List UInt8} (h : ¬ (((s.length : Int) < 1 ∨ 5 < (s.length : Int)) ∨ (1 < (s.length : Int) ∧ s.getD 0 0 = 48))) : 1 ≤ s.length ∧ s.length ≤ 5 ∧ (1 < s.length → s.getD 0 0 ≠ 48) := by
  rw [not_or, not_or, not_and] at h
  exact ⟨by omega, by omega, fun k => h.2 (by omega)⟩
theorem sm_no {s : List UInt8} {most : Int} (h : ¬ numOk s) : smN s = 0 ∧ smE s most = false := by
  unfold smN smE; rw [if_neg h, if_neg h]; exact ⟨rfl, rfl⟩
theorem isD_bad {s : List UInt8} {i : Nat} (hi : i < s.length) (h : isD (s.getD i 0) = false) : ¬ numOk s := fun ⟨_, _, _, k⟩ => by
  rw [List.all_eq_true] at k
  rw [k _ (getD_mem hi)] at h; cases h
theorem isD_no {c : UInt8} (h : c.toNat < 48 ∨ 57 < c.toNat) : isD c = false := by
  unfold isD
  rcases h with k | k
  · rw [decide_eq_false (by omega : ¬ 48 ≤ c.toNat)]; rfl
  · rw [decide_eq_false (by omega : ¬ c.toNat ≤ 57), Bool.and_false]
theorem isD_yes {c : UInt8} (h : ¬ (c.toNat < 48 ∨ 57 < c.toNat)) : isD c = true := by
  unfold isD
  rw [decide_eq_true (by omega : 48 ≤ c.toNat), decide_eq_true (by omega : c.toNat ≤ 57)]; rfl
theorem dec_next {s : List UInt8} {i : Nat} (hi : i < s.length) (h : isD (s.getD i 0) = true) : 10 * ((decV 0 (s.take i) : Nat) : Int) + (((s.getD i 0) - UInt8.ofNat 48).toNat : Int) = ((decV 0 (s.take (i + 1)) : Nat) : Int) := by
  have e : s.take (i + 1) = s.take i ++ [s.getD i 0] := by
    rw [List.take_add_one, List.getElem?_eq_getElem hi, List.getD_eq_getElem?_getD, List.getElem?_eq_getElem hi]; rfl
  have k : 48 ≤ (s.getD i 0).toNat := by unfold isD at h; rw [Bool.and_eq_true, decide_eq_true_eq] at h; exact h.1
  have k2 : (s.getD i 0 - UInt8.ofNat 48).toNat = (s.getD i 0).toNat - 48 := UInt8.toNat_sub_of_le _ _ (by rw [UInt8.le_iff_toNat_le]; exact k)
  rw [e, decV_app, decV_cons, decV_nil, k2]; omega
theorem dec_bd {s : List UInt8} {i : Nat} (h : (s.take i).all isD = true) (hi : i ≤ 5) : decV 0 (s.take i) < 100000 := by
  have a := decV_lt (s.take i) 0 h
  have b : 10 ^ (s.take i).length ≤ 10 ^ 5 := Nat.pow_le_pow_right (by decide) (by rw [List.length_take]; omega)
  omega
set_option maxRecDepth 100000 in
set_option maxHeartbeats 4000000 in
theorem cf_small {s : List UInt8} {most : Int} (hs : s.length ≤ 1100000) : Cf Tryd.prog 50 [] [.s s, .i most] [] (.tup [.i (smN s), .b (smE s most)]) := by
  refine Cf.introR tabT {} D0 (by kernel_rfl) tab_ok Tryd.func50 Tryd.ntmps50 rfl rfl (D0_ok) (by kernel_rfl) ?_
  repeat (refine Ob.mk ?_ ?_; (focus (first | (exact fun hg => beq_f hg) | (exact fun hg => hg) | (intro hg; first | (intro hq; exact and_i hg (beq_t hq)) | (simp at hg; omega)))))
  refine ⟨fun h1 => ?_, fun h1 => ?_⟩
  · skip
    (simp only [Int.reduceToNat, UInt8.reduceOfNat] at h1)
    have c1 := h1
    (simp only [bsX] at c1)
    have hR := sm_no (most := most) (small_no (s := s) (by simpa using h1))
    repeat (refine Ob.mk ?_ ?_; (focus (first | (rw [hR.1]; done) | (rw [hR.2]; done))))
    trivial
  · skip
    (simp only [Int.reduceToNat, UInt8.reduceOfNat] at h1)
    have c1 := h1
    (simp only [bsX] at c1)
    have hG := small_yes (s := s) (by simpa using h1)
    refine ⟨Nat, fun i => ⟨[(0, .s s), (1, .i most), (6, .i (decV 0 (s.take i) : Nat)), (27, .i (s.length : Int)), (28, .i (i : Int))], []⟩, fun i => i ≤ s.length ∧ (s.take i).all isD = true, fun i => s.length - i, 0, (by simp), ?_, fun i hx1 => ?_⟩
    · skip
      repeat (refine Ob.mk ?_ ?_; focus ((exact Eq.refl _)))
      trivial
    refine ⟨fun h2 => ?_, fun h2 => ?_⟩
    · skip
      have c2 := h2
      (simp only [bsX] at c2)
      have hi : i < s.length := by omega
      repeat (refine Ob.mk ?_ ?_; focus (first | omega | (exact fun hg => beq_f hg) | (exact fun hg => hg)))
      refine ⟨fun h3 => ?_, fun h3 => ?_⟩
      · skip
        (simp only [Int.reduceToNat, UInt8.reduceOfNat] at h3)
        have c3 := h3
        (simp only [bsX] at c3)
        have hR := sm_no (most := most) (isD_bad hi (isD_no (by simpa using h3)))
        repeat (refine Ob.mk ?_ ?_; (focus (first | (rw [hR.1]; done) | (rw [hR.2]; done))))
        trivial
      · skip
        (simp only [Int.reduceToNat, UInt8.reduceOfNat] at h3)
        have c3 := h3
        (simp only [bsX] at c3)
        have hD : isD (s.getD i 0) = true := isD_yes (by simpa using h3)
        have hV := dec_next hi hD
        have hA := take_all hi hx1.2 hD
        have hB := dec_bd hx1.2 (by omega)
        have hB2 := dec_bd hA (by omega)
        repeat (refine Ob.mk ?_ ?_; (focus (first | (have := hV; omega) | (simp_all; omega))))
        refine ⟨i + 1, (by (simp_all; omega)), (by (simp only [SrcE.len, Nat.zero_add, List.length_append, List.length_cons, List.length_nil]; omega)), ?_⟩
        repeat (refine Ob.mk ?_ ?_; (focus (first | (have := hV; omega) | (exact Eq.refl _) | assumption)))
        trivial
    · skip
      have c2 := h2
      (simp only [bsX] at c2)
      have hi : i = s.length := by have := hx1.1; omega
      subst hi
      have hA := hx1.2
      rw [List.take_length] at hA
      have hN : numOk s := ⟨hG.1, hG.2.1, hG.2.2, hA⟩
      have hZ : smN s = ((decV 0 s : Nat) : Int) ∧ smE s most = decide (((decV 0 s : Nat) : Int) ≤ most) := by unfold smN smE; rw [if_pos hN, if_pos hN]; exact ⟨rfl, rfl⟩
      repeat (refine Ob.mk ?_ ?_; (focus (first | (rw [hZ.1, List.take_length]; done) | (rw [hZ.2, List.take_length]; done))))
      trivial
def nbN (s : List UInt8) (most : Int) : Int := if smE s most = true then smN s else 0
def nbE (s : List UInt8) (most : Int) : Int := if smE s most = true then 0 else 3
set_option maxRecDepth 100000 in
set_option maxHeartbeats 4000000 in
theorem cf_Number {s : List UInt8} {most : Int} (hs : s.length ≤ 1100000) : Cf Tryd.prog 28 [] [.s s, .i most] [] (.tup [.i (nbN s most), .i (nbE s most)]) := by
  refine Cf.introR tabT {} D0 (by kernel_rfl) tab_ok Tryd.func28 Tryd.ntmps28 rfl rfl (D0_ok) (by kernel_rfl) ?_
  refine ⟨_, _, _, _, (cf_small (s := s) (most := most) hs), ?_⟩
  repeat (refine Ob.mk ?_ ?_; focus ((exact Eq.refl _)))
  refine ⟨fun h1 => ?_, fun h1 => ?_⟩
  · skip
    have c1 := h1
    (simp only [bsX] at c1)
    have hR : nbN s most = 0 ∧ nbE s most = 3 := by unfold nbN nbE; rw [if_neg (by simpa using h1), if_neg (by simpa using h1)]; exact ⟨rfl, rfl⟩
    repeat (refine Ob.mk ?_ ?_; (focus (first | (rw [hR.1]; done) | (rw [hR.2]; done))))
    trivial
  · skip
    have c1 := h1
    (simp only [bsX] at c1)
    have hR : nbN s most = smN s ∧ nbE s most = 0 := by unfold nbN nbE; rw [if_pos (by simpa using h1), if_pos (by simpa using h1)]; exact ⟨rfl, rfl⟩
    repeat (refine Ob.mk ?_ ?_; (focus (first | (rw [hR.1]; done) | (rw [hR.2]; done))))
    trivial
def adA (L : List (List UInt8)) : Nat → Nat
  | 0 => 0
  | i + 1 => adA L i * 256 + decV 0 (L.getD i [])
theorem adA_lt {L : List (List UInt8)} : ∀ {i : Nat}, (∀ j, j < i → smE (L.getD j []) 255 = true) → adA L i < 256 ^ i
  | 0, _ => by show (0 : Nat) < 256 ^ 0; decide
  | i + 1, h => by
    have a := adA_lt (i := i) fun j hj => h j (by omega)
    have b := (sm_ok (h i (by omega))).2.2
    show adA L i * 256 + decV 0 (L.getD i []) < 256 ^ (i + 1)
    rw [Nat.pow_succ]; omega
theorem adr_no4 {s : List UInt8} (h : (spl 46 s).length ≠ 4) : adrR s = (0, 3) := by
  unfold adrR
  split
  · rename_i a b c d e; rw [e] at h; exact absurd rfl h
  · rfl
theorem adr_bad {s : List UInt8} {i : Nat} (h4 : (spl 46 s).length = 4) (hi : i < 4) (h : smE ((spl 46 s).getD i []) 255 = false) : adrR s = (0, 3) := by
  unfold adrR
  split
  · rename_i a b c d e
    rw [e] at h
    refine if_neg fun k => ?_
    match i, hi with
    | 0, _ => exact absurd (k.1.symm.trans h) (by decide)
    | 1, _ => exact absurd (k.2.1.symm.trans h) (by decide)
    | 2, _ => exact absurd (k.2.2.1.symm.trans h) (by decide)
    | 3, _ => exact absurd (k.2.2.2.symm.trans h) (by decide)
  · rfl
theorem adr_good {s : List UInt8} (h4 : (spl 46 s).length = 4) (h : ∀ j, j < 4 → smE ((spl 46 s).getD j []) 255 = true) : adrR s = (adA (spl 46 s) 4, 0) := by
  unfold adrR
  split
  · rename_i a b c d e
    rw [e] at h ⊢
    rw [if_pos ⟨h 0 (by decide), h 1 (by decide), h 2 (by decide), h 3 (by decide)⟩]
    refine Prod.ext ?_ rfl
    show ((decV 0 a * 256 + decV 0 b) * 256 + decV 0 c) * 256 + decV 0 d = (((0 * 256 + decV 0 a) * 256 + decV 0 b) * 256 + decV 0 c) * 256 + decV 0 d
    omega
  · rename_i e
    exfalso
    match q : spl 46 s, h4 with
    | [a, b, c, d], _ => exact e a b c d q
theorem adr_or {x n : Nat} (hx : x < 16777216) (hn : n < 256) : shl32 (UInt32.ofNat x) 8 ||| UInt32.ofNat n = UInt32.ofNat (x * 256 + n) := by
  apply UInt32.toNat_inj.1
  have e1 : (UInt32.ofNat x).toNat = x := by show x % 2 ^ 32 = x; exact Nat.mod_eq_of_lt (by omega)
  have e2 : (UInt32.ofNat n).toNat = n := by show n % 2 ^ 32 = n; exact Nat.mod_eq_of_lt (by omega)
  have e3 : (UInt32.ofNat (x * 256 + n)).toNat = x * 256 + n := by show _ % 2 ^ 32 = _; exact Nat.mod_eq_of_lt (by omega)
  rw [UInt32.toNat_or, e2, e3]
  show (((UInt32.ofNat x).toNat <<< 8) % 2 ^ 32) ||| n = _
  rw [e1, Nat.shiftLeft_eq, Nat.mod_eq_of_lt (by omega)]
  have := Nat.shiftLeft_add_eq_or_of_lt (i := 8) (b := n) (by omega : n < 2 ^ 8) x
  rw [Nat.shiftLeft_eq] at this
  rw [← this]
set_option maxRecDepth 100000 in
set_option maxHeartbeats 4000000 in
theorem cf_adrParse {s : List UInt8} (hl : s.length ≤ 1100000) : Cf Tryd.prog 52 [] [.s s] [] (.tup [.u32 (UInt32.ofNat (adrR s).1), .i (adrR s).2]) := by
  refine Cf.introR tabT {} D0 (by kernel_rfl) tab_ok Tryd.func52 Tryd.ntmps52 rfl rfl (D0_ok) (by kernel_rfl) ?_
  refine ⟨_, _, _, _, (cf_Split (l := s) (c := 46) hl), ?_⟩
  repeat (refine Ob.mk ?_ ?_; focus ((exact Eq.refl _)))
  refine ⟨fun h1 => ?_, fun h1 => ?_⟩
  · skip
    have c1 := h1
    (simp only [bsX] at c1)
    have hR := adr_no4 (s := s) (by omega)
    repeat (refine Ob.mk ?_ ?_; (focus (((rw [hR]; done)))))
    trivial
  · skip
    have c1 := h1
    (simp only [bsX] at c1)
    have h4 : (spl 46 s).length = 4 := by omega
    refine ⟨Nat, fun i => ⟨[(5, .u32 (UInt32.ofNat (adA (spl 46 s) i))), (15, strsE (spl 46 s)), (16, .i ((spl 46 s).length : Int)), (17, .i (i : Int))], []⟩, fun i => i ≤ (spl 46 s).length ∧ ∀ j, j < i → smE ((spl 46 s).getD j []) 255 = true, fun i => (spl 46 s).length - i, 0, ⟨Nat.zero_le _, fun j h => absurd h (Nat.not_lt_zero j)⟩, ?_, fun i hx1 => ?_⟩
    · skip
      repeat (refine Ob.mk ?_ ?_; (focus (first | (exact Eq.refl _) | (intro hg; ((intro hq; ((simp_all; done))))))))
      trivial
    refine ⟨fun h2 => ?_, fun h2 => ?_⟩
    · skip
      have c2 := h2
      (simp only [bsX] at c2)
      have hi : i < (spl 46 s).length := by omega
      have hpl := spl_at (c := 46) (l := s) i
      repeat (refine Ob.mk ?_ ?_; focus (first | assumption | omega))
      refine ⟨_, _, _, _, (cf_small (s := (spl 46 s).getD i []) (most := 255) (by omega)), ?_⟩
      repeat (refine Ob.mk ?_ ?_; focus ((exact Eq.refl _)))
      refine ⟨fun h3 => ?_, fun h3 => ?_⟩
      · skip
        have c3 := h3
        (simp only [bsX] at c3)
        have hR := adr_bad h4 (by omega) (i := i) (by simpa using h3)
        repeat (refine Ob.mk ?_ ?_; (focus (((rw [hR]; done)))))
        trivial
      · skip
        have c3 := h3
        (simp only [bsX] at c3)
        have hE : smE ((spl 46 s).getD i []) 255 = true := by simpa using h3
        obtain ⟨hn1, hn2, hn3⟩ := sm_ok hE
        have hAll : ∀ j, j < i + 1 → smE ((spl 46 s).getD j []) 255 = true := fun j hj => by
          rcases Nat.lt_or_ge j i with q | q
          · exact hx1.2 j q
          · obtain rfl : j = i := by omega
            exact hE
        have hlt := adA_lt hx1.2
        have hp3 : 256 ^ i ≤ 256 ^ 3 := Nat.pow_le_pow_right (by decide) (by omega)
        have hor := adr_or (x := adA (spl 46 s) i) (n := decV 0 ((spl 46 s).getD i [])) (by omega) (by omega)
        have hmod : (((decV 0 ((spl 46 s).getD i []) : Nat) : Int) % 4294967296).toNat = decV 0 ((spl 46 s).getD i []) := by omega
        repeat (refine Ob.mk ?_ ?_; focus (omega))
        refine ⟨i + 1, (by (simp_all; omega)), (by (simp only [SrcE.len, Nat.zero_add, List.length_append, List.length_cons, List.length_nil]; omega)), ?_⟩
        repeat (refine Ob.mk ?_ ?_; (focus (first | (show shl32 (UInt32.ofNat (adA (spl 46 s) i)) 8 ||| UInt32.ofNat ((smN ((spl 46 s).getD i [])) % 4294967296).toNat = _; rw [hn2, hmod]; exact hor) | (exact Eq.refl _) | (intro hg; ((intro hq; ((simp_all; done))))))))
        trivial
    · skip
      have c2 := h2
      (simp only [bsX] at c2)
      have hi : i = (spl 46 s).length := by have := hx1.1; omega
      have hR := adr_good h4 (by rw [hi, h4] at hx1; exact hx1.2)
      have hi4 : i = 4 := by omega
      subst hi4
      repeat (refine Ob.mk ?_ ?_; (focus (((rw [hR]; done)))))
      trivial
def endN (s : List UInt8) : Nat × Int := if endE s = 0 then ((adrR (endA s)).1, smN (endP s)) else (0, 0)
theorem endA_len (s : List UInt8) : (endA s).length ≤ s.length ∧ (endP s).length ≤ s.length := by
  unfold endA endP
  by_cases h : (58 : UInt8) ∈ s
  · rw [if_pos h, if_pos h]
    have := congrArg List.length (bef_aft h)
    rw [List.length_append, List.length_cons] at this
    omega
  · rw [if_neg h, if_neg h]; simp
theorem endA_bef (s : List UInt8) : bef 58 s = endA s ∧ aft 58 s = endP s := by
  unfold endA endP
  by_cases h : (58 : UInt8) ∈ s
  · rw [if_pos h, if_pos h]; exact ⟨rfl, rfl⟩
  · rw [if_neg h, if_neg h, bef_out h, aft_out h]; exact ⟨rfl, rfl⟩
theorem end_no {s : List UInt8} (h : (((58 : UInt8) ∉ s ∨ (adrR (endA s)).2 ≠ 0) ∨ nbE (endP s) 65535 ≠ 0) ∨ nbN (endP s) 65535 = 0) : endE s = 3 ∧ endN s = (0, 0) := by
  have e : endE s = 3 := by
    unfold endE
    refine if_neg fun ⟨k1, k2, k3, k4⟩ => ?_
    have n1 : nbE (endP s) 65535 = 0 := by unfold nbE; rw [if_pos k3]
    have n2 : nbN (endP s) 65535 = smN (endP s) := by unfold nbN; rw [if_pos k3]
    rcases h with ((h | h) | h) | h
    · exact h k1
    · exact h k2
    · exact h n1
    · exact k4 (n2 ▸ h)
  exact ⟨e, by unfold endN; rw [e]; rfl⟩
theorem end_yes {s : List UInt8} (h : ¬ ((((58 : UInt8) ∉ s ∨ (adrR (endA s)).2 ≠ 0) ∨ nbE (endP s) 65535 ≠ 0) ∨ nbN (endP s) 65535 = 0)) : endE s = 0 ∧ endN s = ((adrR (endA s)).1, nbN (endP s) 65535) := by
  rw [not_or, not_or, not_or] at h
  obtain ⟨⟨⟨h1, h2⟩, h3⟩, h4⟩ := h
  have n3 : smE (endP s) 65535 = true := by
    cases q : smE (endP s) 65535 with
    | true => rfl
    | false => exact absurd (by unfold nbE at h3; rw [q] at h3; exact absurd (by decide) h3) h3
  have n2 : nbN (endP s) 65535 = smN (endP s) := by unfold nbN; rw [if_pos n3]
  have e : endE s = 0 := by
    unfold endE
    exact if_pos ⟨Decidable.not_not.1 h1, Decidable.not_not.1 h2, n3, fun q => h4 (n2.trans q)⟩
  exact ⟨e, by unfold endN; rw [if_pos e, n2]⟩
set_option maxRecDepth 100000 in
set_option maxHeartbeats 4000000 in
theorem cf_End {s : List UInt8} (hl : s.length ≤ 1100000) : Cf Tryd.prog 44 [] [.s s] [] (.tup [.u32 (UInt32.ofNat (endN s).1), .i (endN s).2, .i (endE s)]) := by
  have hLn := endA_len s
  have hC := cf_Cut1 (l := s) (c := 58) hl
  rw [(endA_bef s).1, (endA_bef s).2] at hC
  refine Cf.introR tabT {} D0 (by kernel_rfl) tab_ok Tryd.func44 Tryd.ntmps44 rfl rfl (D0_ok) (by kernel_rfl) ?_
  refine ⟨_, _, _, _, hC, ?_⟩
  repeat (refine Ob.mk ?_ ?_; focus ((exact Eq.refl _)))
  refine ⟨_, _, _, _, (cf_adrParse (s := endA s) (by omega)), ?_⟩
  repeat (refine Ob.mk ?_ ?_; focus ((exact Eq.refl _)))
  refine ⟨_, _, _, _, (cf_Number (s := endP s) (most := 65535) (by omega)), ?_⟩
  repeat (refine Ob.mk ?_ ?_; focus (first | (exact Eq.refl _) | (exact fun hg => beq_f hg) | (exact fun hg => hg)))
  refine ⟨fun h1 => ?_, fun h1 => ?_⟩
  · skip
    have c1 := h1
    (simp only [bsX] at c1)
    have hR := end_no (s := s) (by simpa using h1)
    repeat (refine Ob.mk ?_ ?_; (focus (first | (rw [hR.1]; done) | (rw [hR.2]; done))))
    trivial
  · skip
    have c1 := h1
    (simp only [bsX] at c1)
    have hR := end_yes (s := s) (by simpa using h1)
    repeat (refine Ob.mk ?_ ?_; (focus (first | (rw [hR.1]; done) | (rw [hR.2]; done))))
    trivial
end Go.Proofs.YtcebndkiagbddaaDoor
