/- Package conf: contracts, for what may be. -/
import Derived.Test.YtfpglljpngiipaaDoorConfF
import Derived.Test.YtfpglljpngiipaaDoorCAddrE
import Derived.Test.YtfpglljpngiipaaDoorCConfN
namespace Go.Proofs.YtfpglljpngiipaaDoor
open Go.RowKit Go.Lib
set_option linter.unusedVariables false
set_option linter.unusedSimpArgs false

set_option maxRecDepth 100000 in
set_option maxHeartbeats 4000000 in
theorem cf_nanU {x : UInt32} : Cf Tryd.prog 119 [] [.u32 x] [] (.b false) := by
  refine Cf.introR tabT {} D0 (by kernel_rfl) tab_ok Tryd.func119 Tryd.ntmps119 rfl rfl (D0_ok) (by kernel_rfl) ?_
  repeat (refine Ob.mk ?_ ?_; (focus (((simp; done)))))
  trivial
set_option maxRecDepth 100000 in
set_option maxHeartbeats 4000000 in
theorem cf_nanI {x : Int} : Cf Tryd.prog 120 [] [.i x] [] (.b false) := by
  refine Cf.introR tabT {} D0 (by kernel_rfl) tab_ok Tryd.func120 Tryd.ntmps120 rfl rfl (D0_ok) (by kernel_rfl) ?_
  repeat (refine Ob.mk ?_ ?_; (focus (((simp; done)))))
  trivial
def cmpZ (x y : Int) : Int := if x < y then -1 else if y < x then 1 else 0
set_option maxRecDepth 100000 in
set_option maxHeartbeats 4000000 in
theorem cf_cmpU {x y : UInt32} : Cf Tryd.prog 92 [] [.u32 x, .u32 y] [] (.i (cmpZ (x.toNat : Int) (y.toNat : Int))) := by
  refine Cf.introR tabT {} D0 (by kernel_rfl) tab_ok Tryd.func92 Tryd.ntmps92 rfl rfl (D0_ok) (by kernel_rfl) ?_
  refine ⟨_, _, _, _, (@cf_nanU ?_), ?_⟩
  rotate_left 1
  repeat (refine Ob.mk ?_ ?_; focus ((exact Eq.refl _)))
  refine ⟨_, _, _, _, (@cf_nanU ?_), ?_⟩
  rotate_left 1
  repeat (refine Ob.mk ?_ ?_; focus ((exact Eq.refl _)))
  refine ⟨fun h1 => ?_, fun h1 => ?_⟩
  · skip
    have c1 := h1
    exact absurd (show false = true from h1) (by decide)
  · skip
    (simp only [Int.reduceToNat, UInt8.reduceOfNat] at h1)
    have c1 := h1
    refine ⟨fun h2 => ?_, fun h2 => ?_⟩
    · skip
      have c2 := h2
      exact absurd (show false = true from h2) (by decide)
    · skip
      (simp only [Int.reduceToNat, UInt8.reduceOfNat] at h2)
      have c2 := h2
      refine ⟨fun h3 => ?_, fun h3 => ?_⟩
      · skip
        have c3 := h3
        (simp only [bsX] at c3)
        have hR : cmpZ (x.toNat : Int) (y.toNat : Int) = -1 := if_pos (by omega)
        repeat (refine Ob.mk ?_ ?_; focus (exact hR.symm))
        trivial
      · skip
        have c3 := h3
        (simp only [bsX] at c3)
        refine ⟨fun h4 => ?_, fun h4 => ?_⟩
        · skip
          have c4 := h4
          (simp only [bsX] at c4)
          have hR : cmpZ (x.toNat : Int) (y.toNat : Int) = 1 := (if_neg (by omega)).trans (if_pos (by omega))
          repeat (refine Ob.mk ?_ ?_; focus (exact hR.symm))
          trivial
        · skip
          have c4 := h4
          (simp only [bsX] at c4)
          have hR : cmpZ (x.toNat : Int) (y.toNat : Int) = 0 := (if_neg (by omega)).trans (if_neg (by omega))
          repeat (refine Ob.mk ?_ ?_; focus (exact hR.symm))
          trivial
set_option maxRecDepth 100000 in
set_option maxHeartbeats 4000000 in
theorem cf_cmpI {x y : Int} : Cf Tryd.prog 93 [] [.i x, .i y] [] (.i (cmpZ x y)) := by
  refine Cf.introR tabT {} D0 (by kernel_rfl) tab_ok Tryd.func93 Tryd.ntmps93 rfl rfl (D0_ok) (by kernel_rfl) ?_
  refine ⟨_, _, _, _, (@cf_nanI ?_), ?_⟩
  rotate_left 1
  repeat (refine Ob.mk ?_ ?_; focus ((exact Eq.refl _)))
  refine ⟨_, _, _, _, (@cf_nanI ?_), ?_⟩
  rotate_left 1
  repeat (refine Ob.mk ?_ ?_; focus ((exact Eq.refl _)))
  refine ⟨fun h1 => ?_, fun h1 => ?_⟩
  · skip
    have c1 := h1
    exact absurd (show false = true from h1) (by decide)
  · skip
    (simp only [Int.reduceToNat, UInt8.reduceOfNat] at h1)
    have c1 := h1
    refine ⟨fun h2 => ?_, fun h2 => ?_⟩
    · skip
      have c2 := h2
      exact absurd (show false = true from h2) (by decide)
    · skip
      (simp only [Int.reduceToNat, UInt8.reduceOfNat] at h2)
      have c2 := h2
      refine ⟨fun h3 => ?_, fun h3 => ?_⟩
      · skip
        have c3 := h3
        (simp only [bsX] at c3)
        have hR : cmpZ x y = -1 := if_pos (by omega)
        repeat (refine Ob.mk ?_ ?_; focus (exact hR.symm))
        trivial
      · skip
        have c3 := h3
        (simp only [bsX] at c3)
        refine ⟨fun h4 => ?_, fun h4 => ?_⟩
        · skip
          have c4 := h4
          (simp only [bsX] at c4)
          have hR : cmpZ x y = 1 := (if_neg (by omega)).trans (if_pos (by omega))
          repeat (refine Ob.mk ?_ ?_; focus (exact hR.symm))
          trivial
        · skip
          have c4 := h4
          (simp only [bsX] at c4)
          have hR : cmpZ x y = 0 := (if_neg (by omega)).trans (if_neg (by omega))
          repeat (refine Ob.mk ?_ ?_; focus (exact hR.symm))
          trivial
def orI (a b : Int) : Int := if a = 0 then b else a
theorem or_T {a b : Int} {i : Nat} (hi : i < 2) (h1 : 1 ≤ i → a = 0) (h : ¬ [a, b].getD i 0 = 0) : [a, b].getD i 0 = orI a b := by
  have : i = 0 ∨ i = 1 := by omega
  rcases this with rfl | rfl
  · exact (if_neg h).symm
  · exact (if_pos (h1 (by decide))).symm
theorem or_F {a b : Int} {i : Nat} (hi : i < 2) (h1 : 1 ≤ i → a = 0) (h : [a, b].getD i 0 = 0) : i + 1 ≤ 2 ∧ (1 ≤ i + 1 → a = 0) ∧ (2 ≤ i + 1 → b = 0) := by
  have : i = 0 ∨ i = 1 := by omega
  rcases this with rfl | rfl
  · exact ⟨by omega, fun _ => h, fun k => absurd k (by decide)⟩
  · exact ⟨by omega, fun _ => h1 (by decide), fun _ => h⟩
theorem or_0 {a b : Int} (h1 : a = 0) (h2 : b = 0) : orI a b = 0 := by rw [h1, h2]; rfl
set_option maxRecDepth 100000 in
set_option maxHeartbeats 4000000 in
theorem cf_cmpOr {a b : Int} : Cf Tryd.prog 91 [] [.sl [.i a, .i b] 2] [] (.i (orI a b)) := by
  refine Cf.introR tabT {sel := [10]} D0 (by kernel_rfl) tab_ok Tryd.func91 Tryd.ntmps91 rfl rfl (D0_ok) (by kernel_rfl) ?_
  refine ⟨Nat, fun i => ⟨[(3, .i 0), (6, .sl [.i a, .i b] 2), (7, .i 2), (8, .i (i : Int))], []⟩, fun i => i ≤ 2 ∧ (1 ≤ i → a = 0) ∧ (2 ≤ i → b = 0), fun i => 2 - i, 0, by omega, ?_, fun i hx1 => ?_⟩
  · skip
    repeat (refine Ob.mk ?_ ?_; focus ((exact Eq.refl _)))
    trivial
  refine ⟨fun h1 => ?_, fun h1 => ?_⟩
  · skip
    have c1 := h1
    (simp only [bsX] at c1)
    have hi : i < 2 := by omega
    repeat (refine Ob.mk ?_ ?_; focus (first | assumption | omega))
    refine ⟨fun h2 => ?_, fun h2 => ?_⟩
    · skip
      have c2 := h2
      (simp only [bsX] at c2)
      have hR := or_T hi hx1.2.1 c2
      repeat (refine Ob.mk ?_ ?_; focus (exact hR))
      trivial
    · skip
      have c2 := h2
      (simp only [bsX] at c2)
      have hnx := or_F hi hx1.2.1 c2
      repeat (refine Ob.mk ?_ ?_; focus (omega))
      refine ⟨i + 1, (by assumption), (by (simp only [SrcE.len, Nat.zero_add, List.length_append, List.length_cons, List.length_nil]; omega)), ?_⟩
      repeat (refine Ob.mk ?_ ?_; focus ((exact Eq.refl _)))
      trivial
  · skip
    have c1 := h1
    (simp only [bsX] at c1)
    have hR : 0 = orI a b := (or_0 (hx1.2.1 (by omega)) (hx1.2.2 (by omega))).symm
    repeat (refine Ob.mk ?_ ?_; focus (exact hR))
    trivial
def cmpP (p q : List Bool) : Int := orI (cmpZ ((adr p).toNat : Int) ((adr q).toNat : Int)) (cmpZ (p.length : Int) (q.length : Int))
set_option maxRecDepth 100000 in
set_option maxHeartbeats 4000000 in
theorem cf_nCompare {p q : List Bool} : Cf Tryd.prog 60 [] [netE p, netE q] [] (.i (cmpP p q)) := by
  refine Cf.introR tabT {} (DR _ _ _ tabT {}) (by kernel_rfl) tab_ok Tryd.func60 Tryd.ntmps60 rfl rfl (DR_ok tab_ok (by kernel_rfl)) (by kernel_rfl) ?_
  refine ⟨[0, 1, 0, 4, 15, 0, 32, 0, 128, 511, 1023, 2047, 4095], by kernel_rfl, ?_⟩
  refine ⟨_, _, _, _, (@cf_cmpU ?_ ?_), ?_⟩
  rotate_left 2
  repeat (refine Ob.mk ?_ ?_; focus ((exact Eq.refl _)))
  refine ⟨_, _, _, _, (@cf_cmpI ?_ ?_), ?_⟩
  rotate_left 2
  repeat (refine Ob.mk ?_ ?_; focus ((exact Eq.refl _)))
  refine ⟨_, _, _, _, (@cf_cmpOr ?_ ?_), ?_⟩
  rotate_left 2
  repeat (refine Ob.mk ?_ ?_; focus ((exact Eq.refl _)))
  trivial
theorem cmpP_lt {p q : List Bool} (h : ltB p q = true) : cmpP p q = -1 := by
  unfold cmpP
  rw [adr_nat, adr_nat]
  rcases ltB_iff.1 h with k | ⟨k1, k2⟩
  · have e : cmpZ (adrN p : Int) (adrN q : Int) = -1 := if_pos (by omega)
    rw [e]; rfl
  · have e : cmpZ (adrN p : Int) (adrN q : Int) = 0 := (if_neg (by omega)).trans (if_neg (by omega))
    have e2 : cmpZ (p.length : Int) (q.length : Int) = -1 := if_pos (by omega)
    rw [e, e2]; rfl
theorem cf_hexOk {k : List UInt8} (h : hexC k = 0) : Cf Tryd.prog 57 [] [.s k] [] (.i 0) := h ▸ cf_hexCheck
theorem cf_endOk {s : List UInt8} (h : endE s = 0) : Cf Tryd.prog 58 [] [.s s] [] (.tup [.u32 (UInt32.ofNat (endN s).1), .i (endN s).2, .i 0]) := by
  have hl := (endE_okV h).2
  have := cf_End (s := s) (by omega)
  rw [h] at this
  exact this
theorem zs_rep2 : Go.Lib.repeatL [48] 64 = zs64 := by decide +kernel
theorem cf_zsR : Cf Tryd.prog 31 [] [.s [48], .i 64] [] (.s zs64) := by
  have := cf_Repeat (l := [48]) (c := 64) (by decide) (by decide)
  rw [zs_rep2] at this; exact this
theorem rise_at {l : List (List Bool)} (h : riseN l) {i : Nat} (h0 : 0 < i) (hi : i < l.length) : ltB (l.getD (i - 1) []) (l.getD i []) = true := by
  rw [List.getD_eq_getElem?_getD, List.getD_eq_getElem?_getD, List.getElem?_eq_getElem hi, List.getElem?_eq_getElem (by omega)]
  exact List.pairwise_iff_getElem.1 h (i - 1) i (by omega) hi (by omega)
theorem nsAt_ok {p : PeerS} (h : PeerOk p) (i : Nat) : (p.ns.getD i []).length ≤ 32 := nsAt_32 h.nb i
set_option maxRecDepth 100000 in
set_option maxHeartbeats 4000000 in
theorem cf_RightO {p : PeerS} (h : PeerOk p) : Cf Tryd.prog 22 [] [peerE p] [] (.i 0) := by
  have hnl := h.nl
  have ha := h.a
  refine Cf.introR tabT {} (DR _ _ _ tabT {}) (by kernel_rfl) tab_ok Tryd.func22 Tryd.ntmps22 rfl rfl (DR_ok tab_ok (by kernel_rfl)) (by kernel_rfl) ?_
  refine ⟨_, _, _, _, (cf_hexOk h.k), ?_⟩
  repeat (refine Ob.mk ?_ ?_; focus ((exact Eq.refl _)))
  refine knF ?_
  refine ⟨fun h2 => ?_, fun h2 => ?_⟩
  · skip
    have c2 := h2
    (simp only [bsX] at c2)
    have hs := h.s.resolve_left c2
    refine ⟨_, _, _, _, (cf_hexOk hs.2), ?_⟩
    repeat (refine Ob.mk ?_ ?_; focus ((exact Eq.refl _)))
    refine knF ?_
    refine ⟨[0, 1, 0, 7], by kernel_rfl, ?_⟩
    refine ⟨_, _, _, _, cf_zsR, ?_⟩
    repeat (refine Ob.mk ?_ ?_; focus ((exact Eq.refl _)))
    refine ⟨fun h4 => ?_, fun h4 => ?_⟩
    · skip
      have c4 := h4
      (simp only [bsX] at c4)
      exact absurd c4 hs.1
    · skip
      have c4 := h4
      (simp only [bsX] at c4)
      refine ⟨fun h5 => ?_, fun h5 => ?_⟩
      · skip
        have c5 := h5
        (simp only [bsX] at c5)
        have he := h.e.resolve_left c5
        refine ⟨_, _, _, _, (cf_endOk he), ?_⟩
        repeat (refine Ob.mk ?_ ?_; focus ((exact Eq.refl _)))
        refine ⟨fun h6 => ?_, fun h6 => ?_⟩
        · skip
          (simp only [Int.reduceToNat, UInt8.reduceOfNat] at h6)
          have c6 := h6
          (simp only [bsX] at c6)
          repeat (refine Ob.mk ?_ ?_; focus ((exact Eq.refl _)))
          trivial
        · skip
          (simp only [Int.reduceToNat, UInt8.reduceOfNat] at h6)
          have c6 := h6
          (simp only [bsX] at c6)
          repeat (refine Ob.mk ?_ ?_; focus (first | (exact fun hg => beq_f hg) | (exact fun hg => hg)))
          refine ⟨fun h7 => ?_, fun h7 => ?_⟩
          · skip
            have c7 := h7
            (simp only [bsX] at c7)
            exact absurd c7 (by omega)
          · skip
            have c7 := h7
            (simp only [bsX] at c7)
            refine ⟨fun h8 => ?_, fun h8 => ?_⟩
            · skip
              have c8 := h8
              (simp only [bsX] at c8)
              exact absurd c8 (by omega)
            · skip
              have c8 := h8
              (simp only [bsX] at c8)
              refine ⟨Nat, fun i => ⟨[(1, .own 1001 0), (56, netsE p.ns), (57, .i (p.ns.length : Int)), (58, .i (i : Int))], [(1001, .box [.s p.k, .s p.s, .s p.e, .i p.a, netsE p.ns] 71)]⟩, fun i => i ≤ p.ns.length, fun i => p.ns.length - i, 0, Nat.zero_le _, ?_, fun i hx1 => ?_⟩
              · skip
                repeat (refine Ob.mk ?_ ?_; (focus (first | (exact Eq.refl _) | (intro hg; ((intro hq; ((simp_all; done))))))))
                trivial
              refine ⟨fun h9 => ?_, fun h9 => ?_⟩
              · skip
                have c9 := h9
                (simp only [bsX] at c9)
                have hi : i < p.ns.length := by omega
                repeat (refine Ob.mk ?_ ?_; focus (first | assumption | omega))
                refine ⟨_, _, _, _, (cf_nCheck (p := p.ns.getD i []) (nsAt_ok h i)), ?_⟩
                repeat (refine Ob.mk ?_ ?_; focus ((exact Eq.refl _)))
                refine knF ?_
                refine ⟨[0, 1, 3, 7, 15, 7, 39, 127, 255, 7, 1023, 2047, 4095], by kernel_rfl, ?_⟩
                repeat (refine Ob.mk ?_ ?_; (focus (first | omega | (exact fun hg => hg) | (intro hg; ((simp at hg; omega))))))
                refine gx (fun hc => (cf_nCompare (p := p.ns.getD (i - 1) []) (q := p.ns.getD i []))) (fun hk => ⟨hk, ?_⟩)
                repeat (refine Ob.mk ?_ ?_; (focus (first | (intro _; exact Eq.refl _) | (exact fun hg => beq_t hg) | (exact fun hg => hg) | (intro hg; ((simp_all; done))))))
                refine ⟨fun h11 => ?_, fun h11 => ?_⟩
                · skip
                  have c11 := h11
                  (simp only [bsX] at c11)
                  exact absurd (c11).2 (by have h0 : 0 < i := (by have := (c11).1; omega); rw [cmpP_lt (rise_at h.ns h0 hi)]; decide)
                · skip
                  have c11 := h11
                  (simp only [bsX] at c11)
                  repeat (refine Ob.mk ?_ ?_; focus (omega))
                  refine ⟨i + 1, (by assumption), (by (simp only [SrcE.len, Nat.zero_add, List.length_append, List.length_cons, List.length_nil]; omega)), ?_⟩
                  repeat (refine Ob.mk ?_ ?_; (focus (first | (exact Eq.refl _) | (intro hg; ((intro hq; ((simp_all; done))))))))
                  trivial
              · skip
                have c9 := h9
                (simp only [bsX] at c9)
                repeat (refine Ob.mk ?_ ?_; focus ((exact Eq.refl _)))
                trivial
      · skip
        have c5 := h5
        (simp only [bsX] at c5)
        repeat (refine Ob.mk ?_ ?_; focus (first | (exact fun hg => beq_f hg) | (exact fun hg => hg)))
        refine ⟨fun h12 => ?_, fun h12 => ?_⟩
        · skip
          have c12 := h12
          (simp only [bsX] at c12)
          exact absurd c12 (by omega)
        · skip
          have c12 := h12
          (simp only [bsX] at c12)
          refine ⟨fun h13 => ?_, fun h13 => ?_⟩
          · skip
            have c13 := h13
            (simp only [bsX] at c13)
            exact absurd c13 (by omega)
          · skip
            have c13 := h13
            (simp only [bsX] at c13)
            refine ⟨Nat, fun i => ⟨[(1, .own 1001 0), (56, netsE p.ns), (57, .i (p.ns.length : Int)), (58, .i (i : Int))], [(1001, .box [.s p.k, .s p.s, .s p.e, .i p.a, netsE p.ns] 71)]⟩, fun i => i ≤ p.ns.length, fun i => p.ns.length - i, 0, Nat.zero_le _, ?_, fun i hx1 => ?_⟩
            · skip
              repeat (refine Ob.mk ?_ ?_; (focus (first | (exact Eq.refl _) | (intro hg; ((intro hq; ((simp_all; done))))))))
              trivial
            refine ⟨fun h14 => ?_, fun h14 => ?_⟩
            · skip
              have c14 := h14
              (simp only [bsX] at c14)
              have hi : i < p.ns.length := by omega
              repeat (refine Ob.mk ?_ ?_; focus (first | assumption | omega))
              refine ⟨_, _, _, _, (cf_nCheck (p := p.ns.getD i []) (nsAt_ok h i)), ?_⟩
              repeat (refine Ob.mk ?_ ?_; focus ((exact Eq.refl _)))
              refine knF ?_
              refine ⟨[0, 1, 3, 7, 15, 7, 39, 127, 255, 7, 1023, 2047, 4095], by kernel_rfl, ?_⟩
              repeat (refine Ob.mk ?_ ?_; (focus (first | omega | (exact fun hg => hg) | (intro hg; ((simp at hg; omega))))))
              refine gx (fun hc => (cf_nCompare (p := p.ns.getD (i - 1) []) (q := p.ns.getD i []))) (fun hk => ⟨hk, ?_⟩)
              repeat (refine Ob.mk ?_ ?_; (focus (first | (intro _; exact Eq.refl _) | (exact fun hg => beq_t hg) | (exact fun hg => hg) | (intro hg; ((simp_all; done))))))
              refine ⟨fun h16 => ?_, fun h16 => ?_⟩
              · skip
                have c16 := h16
                (simp only [bsX] at c16)
                exact absurd (c16).2 (by have h0 : 0 < i := (by have := (c16).1; omega); rw [cmpP_lt (rise_at h.ns h0 hi)]; decide)
              · skip
                have c16 := h16
                (simp only [bsX] at c16)
                repeat (refine Ob.mk ?_ ?_; focus (omega))
                refine ⟨i + 1, (by assumption), (by (simp only [SrcE.len, Nat.zero_add, List.length_append, List.length_cons, List.length_nil]; omega)), ?_⟩
                repeat (refine Ob.mk ?_ ?_; (focus (first | (exact Eq.refl _) | (intro hg; ((intro hq; ((simp_all; done))))))))
                trivial
            · skip
              have c14 := h14
              (simp only [bsX] at c14)
              repeat (refine Ob.mk ?_ ?_; focus ((exact Eq.refl _)))
              trivial
  · skip
    have c2 := h2
    (simp only [bsX] at c2)
    refine ⟨fun h17 => ?_, fun h17 => ?_⟩
    · skip
      have c17 := h17
      (simp only [bsX] at c17)
      have he := h.e.resolve_left c17
      refine ⟨_, _, _, _, (cf_endOk he), ?_⟩
      repeat (refine Ob.mk ?_ ?_; focus ((exact Eq.refl _)))
      refine ⟨fun h18 => ?_, fun h18 => ?_⟩
      · skip
        (simp only [Int.reduceToNat, UInt8.reduceOfNat] at h18)
        have c18 := h18
        (simp only [bsX] at c18)
        repeat (refine Ob.mk ?_ ?_; focus ((exact Eq.refl _)))
        trivial
      · skip
        (simp only [Int.reduceToNat, UInt8.reduceOfNat] at h18)
        have c18 := h18
        (simp only [bsX] at c18)
        repeat (refine Ob.mk ?_ ?_; focus (first | (exact fun hg => beq_f hg) | (exact fun hg => hg)))
        refine ⟨fun h19 => ?_, fun h19 => ?_⟩
        · skip
          have c19 := h19
          (simp only [bsX] at c19)
          exact absurd c19 (by omega)
        · skip
          have c19 := h19
          (simp only [bsX] at c19)
          refine ⟨fun h20 => ?_, fun h20 => ?_⟩
          · skip
            have c20 := h20
            (simp only [bsX] at c20)
            exact absurd c20 (by omega)
          · skip
            have c20 := h20
            (simp only [bsX] at c20)
            refine ⟨Nat, fun i => ⟨[(1, .own 1001 0), (56, netsE p.ns), (57, .i (p.ns.length : Int)), (58, .i (i : Int))], [(1001, .box [.s p.k, .s p.s, .s p.e, .i p.a, netsE p.ns] 71)]⟩, fun i => i ≤ p.ns.length, fun i => p.ns.length - i, 0, Nat.zero_le _, ?_, fun i hx1 => ?_⟩
            · skip
              repeat (refine Ob.mk ?_ ?_; (focus (first | (exact Eq.refl _) | (intro hg; ((intro hq; ((simp_all; done))))))))
              trivial
            refine ⟨fun h21 => ?_, fun h21 => ?_⟩
            · skip
              have c21 := h21
              (simp only [bsX] at c21)
              have hi : i < p.ns.length := by omega
              repeat (refine Ob.mk ?_ ?_; focus (first | assumption | omega))
              refine ⟨_, _, _, _, (cf_nCheck (p := p.ns.getD i []) (nsAt_ok h i)), ?_⟩
              repeat (refine Ob.mk ?_ ?_; focus ((exact Eq.refl _)))
              refine knF ?_
              refine ⟨[0, 1, 3, 7, 15, 7, 39, 127, 255, 7, 1023, 2047, 4095], by kernel_rfl, ?_⟩
              repeat (refine Ob.mk ?_ ?_; (focus (first | omega | (exact fun hg => hg) | (intro hg; ((simp at hg; omega))))))
              refine gx (fun hc => (cf_nCompare (p := p.ns.getD (i - 1) []) (q := p.ns.getD i []))) (fun hk => ⟨hk, ?_⟩)
              repeat (refine Ob.mk ?_ ?_; (focus (first | (intro _; exact Eq.refl _) | (exact fun hg => beq_t hg) | (exact fun hg => hg) | (intro hg; ((simp_all; done))))))
              refine ⟨fun h23 => ?_, fun h23 => ?_⟩
              · skip
                have c23 := h23
                (simp only [bsX] at c23)
                exact absurd (c23).2 (by have h0 : 0 < i := (by have := (c23).1; omega); rw [cmpP_lt (rise_at h.ns h0 hi)]; decide)
              · skip
                have c23 := h23
                (simp only [bsX] at c23)
                repeat (refine Ob.mk ?_ ?_; focus (omega))
                refine ⟨i + 1, (by assumption), (by (simp only [SrcE.len, Nat.zero_add, List.length_append, List.length_cons, List.length_nil]; omega)), ?_⟩
                repeat (refine Ob.mk ?_ ?_; (focus (first | (exact Eq.refl _) | (intro hg; ((intro hq; ((simp_all; done))))))))
                trivial
            · skip
              have c21 := h21
              (simp only [bsX] at c21)
              repeat (refine Ob.mk ?_ ?_; focus ((exact Eq.refl _)))
              trivial
    · skip
      have c17 := h17
      (simp only [bsX] at c17)
      repeat (refine Ob.mk ?_ ?_; focus (first | (exact fun hg => beq_f hg) | (exact fun hg => hg)))
      refine ⟨fun h24 => ?_, fun h24 => ?_⟩
      · skip
        have c24 := h24
        (simp only [bsX] at c24)
        exact absurd c24 (by omega)
      · skip
        have c24 := h24
        (simp only [bsX] at c24)
        refine ⟨fun h25 => ?_, fun h25 => ?_⟩
        · skip
          have c25 := h25
          (simp only [bsX] at c25)
          exact absurd c25 (by omega)
        · skip
          have c25 := h25
          (simp only [bsX] at c25)
          refine ⟨Nat, fun i => ⟨[(1, .own 1001 0), (56, netsE p.ns), (57, .i (p.ns.length : Int)), (58, .i (i : Int))], [(1001, .box [.s p.k, .s p.s, .s p.e, .i p.a, netsE p.ns] 71)]⟩, fun i => i ≤ p.ns.length, fun i => p.ns.length - i, 0, Nat.zero_le _, ?_, fun i hx1 => ?_⟩
          · skip
            repeat (refine Ob.mk ?_ ?_; (focus (first | (exact Eq.refl _) | (intro hg; ((intro hq; ((simp_all; done))))))))
            trivial
          refine ⟨fun h26 => ?_, fun h26 => ?_⟩
          · skip
            have c26 := h26
            (simp only [bsX] at c26)
            have hi : i < p.ns.length := by omega
            repeat (refine Ob.mk ?_ ?_; focus (first | assumption | omega))
            refine ⟨_, _, _, _, (cf_nCheck (p := p.ns.getD i []) (nsAt_ok h i)), ?_⟩
            repeat (refine Ob.mk ?_ ?_; focus ((exact Eq.refl _)))
            refine knF ?_
            refine ⟨[0, 1, 3, 7, 15, 7, 39, 127, 255, 7, 1023, 2047, 4095], by kernel_rfl, ?_⟩
            repeat (refine Ob.mk ?_ ?_; (focus (first | omega | (exact fun hg => hg) | (intro hg; ((simp at hg; omega))))))
            refine gx (fun hc => (cf_nCompare (p := p.ns.getD (i - 1) []) (q := p.ns.getD i []))) (fun hk => ⟨hk, ?_⟩)
            repeat (refine Ob.mk ?_ ?_; (focus (first | (intro _; exact Eq.refl _) | (exact fun hg => beq_t hg) | (exact fun hg => hg) | (intro hg; ((simp_all; done))))))
            refine ⟨fun h28 => ?_, fun h28 => ?_⟩
            · skip
              have c28 := h28
              (simp only [bsX] at c28)
              exact absurd (c28).2 (by have h0 : 0 < i := (by have := (c28).1; omega); rw [cmpP_lt (rise_at h.ns h0 hi)]; decide)
            · skip
              have c28 := h28
              (simp only [bsX] at c28)
              repeat (refine Ob.mk ?_ ?_; focus (omega))
              refine ⟨i + 1, (by assumption), (by (simp only [SrcE.len, Nat.zero_add, List.length_append, List.length_cons, List.length_nil]; omega)), ?_⟩
              repeat (refine Ob.mk ?_ ?_; (focus (first | (exact Eq.refl _) | (intro hg; ((intro hq; ((simp_all; done))))))))
              trivial
          · skip
            have c26 := h26
            (simp only [bsX] at c26)
            repeat (refine Ob.mk ?_ ?_; focus ((exact Eq.refl _)))
            trivial
/-- Where a key stands, or -1. -/
def idxP (ps : List PeerS) (k : List UInt8) : Int := if k ∈ ps.map (·.k) then ((ps.map (·.k)).idxOf k : Int) else -1
theorem idxP_at {ps : List PeerS} {k : List UInt8} {i : Nat} (hi : i < ps.length) (hb : ∀ j, j < i → (ps.getD j peer0).k ≠ k) (h : (ps.getD i peer0).k = k) : idxP ps k = (i : Int) := by
  have g : ∀ j (hj : j < (ps.map (·.k)).length), (ps.map (·.k))[j] = (ps.getD j peer0).k := fun j hj => by
    rw [List.getElem_map, List.getD_eq_getElem?_getD, List.getElem?_eq_getElem (by simpa using hj)]; rfl
  have hi2 : i < (ps.map (·.k)).length := by simpa using hi
  have hm : k ∈ ps.map (·.k) := by rw [← h, ← g i hi2]; exact List.getElem_mem hi2
  unfold idxP
  rw [if_pos hm]
  have h1 := List.idxOf_lt_length_of_mem hm
  have h2 : (ps.map (·.k)).idxOf k = i := by
    rcases Nat.lt_trichotomy ((ps.map (·.k)).idxOf k) i with q | q | q
    · exact absurd ((g _ h1).symm.trans (List.getElem_idxOf h1)) (hb _ q)
    · exact q
    · have := List.not_of_lt_findIdx (p := (· == k)) (xs := List.map (fun x : PeerS => x.k) ps) (i := i) q
      rw [g i hi2, h] at this
      simp at this
  rw [h2]
theorem idxP_no {ps : List PeerS} {k : List UInt8} (hb : ∀ j, j < ps.length → (ps.getD j peer0).k ≠ k) : idxP ps k = -1 := by
  unfold idxP
  rw [if_neg]
  intro h
  obtain ⟨p, hp, e⟩ := List.mem_map.1 h
  obtain ⟨i, hi, e2⟩ := List.mem_iff_getElem.1 hp
  refine hb i hi ?_
  rw [List.getD_eq_getElem?_getD, List.getElem?_eq_getElem hi, Option.getD_some, e2]; exact e
set_option maxRecDepth 100000 in
set_option maxHeartbeats 4000000 in
theorem cf_isKey {p : PeerS} {k : List UInt8} : Cf Tryd.prog 56 [] [peerE p, .pp [.s k] 0] [] (.b (decide (p.k = k))) := by
  refine Cf.introR tabT {} D0 (by kernel_rfl) tab_ok Tryd.func56 Tryd.ntmps56 rfl rfl (D0_ok) (by kernel_rfl) ?_
  repeat (refine Ob.mk ?_ ?_; focus ((exact Eq.refl _)))
  trivial
set_option maxRecDepth 100000 in
set_option maxHeartbeats 4000000 in
theorem cf_pIdxF {ps : List PeerS} {k : List UInt8} (hl : ps.length ≤ 1000) : Cf Tryd.prog 55 [] [peersE ps, .fn 56 [.pp [.s k] 0]] [] (.i (idxP ps k)) := by
  refine Cf.introR tabT {} D0 (by kernel_rfl) tab_ok Tryd.func55 Tryd.ntmps55 rfl rfl (D0_ok) (by kernel_rfl) ?_
  refine ⟨Nat, fun i => ⟨[(0, peersE ps), (1, .fn 56 [.pp [.s k] 0]), (7, .i (ps.length : Int)), (8, .i (i : Int))], []⟩, fun i => i ≤ ps.length ∧ ∀ j, j < i → (ps.getD j peer0).k ≠ k, fun i => ps.length - i, 0, ⟨Nat.zero_le _, fun i hi => absurd hi (Nat.not_lt_zero _)⟩, ?_, fun i hx1 => ?_⟩
  · skip
    repeat (refine Ob.mk ?_ ?_; (focus (first | (exact Eq.refl _) | (intro hg; ((intro hq; ((simp_all; done))))))))
    trivial
  refine ⟨fun h1 => ?_, fun h1 => ?_⟩
  · skip
    have c1 := h1
    (simp only [bsX] at c1)
    have hk : i < ps.length := by omega
    repeat (refine Ob.mk ?_ ?_; focus (first | assumption | omega))
    refine ⟨_, _, _, _, (cf_isKey (p := ps.getD i peer0) (k := k)), ?_⟩
    repeat (refine Ob.mk ?_ ?_; (focus (first | (exact Eq.refl _) | (intro hg; ((intro hq; ((simp_all; done))))))))
    refine ⟨fun h2 => ?_, fun h2 => ?_⟩
    · skip
      have c2 := h2
      (simp only [bsX] at c2)
      have hO := idxP_at hk hx1.2 c2
      repeat (refine Ob.mk ?_ ?_; focus (exact hO.symm))
      trivial
    · skip
      have c2 := h2
      (simp only [bsX] at c2)
      repeat (refine Ob.mk ?_ ?_; focus (omega))
      have hnx : i + 1 ≤ ps.length ∧ ∀ j, j < i + 1 → (ps.getD j peer0).k ≠ k := ⟨hk, fun j hj => (Nat.lt_or_ge j i).elim (hx1.2 j) fun q e => c2 (by rw [← e, show j = i from by omega])⟩
      refine ⟨i + 1, (by assumption), (by (simp only [SrcE.len, Nat.zero_add, List.length_append, List.length_cons, List.length_nil]; omega)), ?_⟩
      repeat (refine Ob.mk ?_ ?_; (focus (first | (exact Eq.refl _) | (intro hg; ((intro hq; ((simp_all; done))))))))
      trivial
  · skip
    have c1 := h1
    (simp only [bsX] at c1)
    have hO := idxP_no (ps := ps) (k := k) fun j hj => hx1.2 j (by omega)
    repeat (refine Ob.mk ?_ ?_; focus (exact hO.symm))
    trivial
set_option maxRecDepth 100000 in
set_option maxHeartbeats 4000000 in
theorem cf_Find {c : ConfS} {k : List UInt8} (hl : c.ps.length ≤ 1000) : Cf Tryd.prog 21 [] [confE c, .s k] [] (.tup [.i (if idxP c.ps k < 0 then 0 else idxP c.ps k), .i (if idxP c.ps k < 0 then 5 else 0)]) := by
  refine Cf.introR tabT {} D0 (by kernel_rfl) tab_ok Tryd.func21 Tryd.ntmps21 rfl rfl (D0_ok) (by kernel_rfl) ?_
  refine ⟨_, _, _, _, (cf_pIdxF (ps := c.ps) (k := k) hl), ?_⟩
  repeat (refine Ob.mk ?_ ?_; (focus (first | (exact Eq.refl _) | (intro hg; ((intro hq; ((simp_all; done))))))))
  refine ⟨fun h1 => ?_, fun h1 => ?_⟩
  · skip
    have c1 := h1
    (simp only [bsX] at c1)
    repeat (refine Ob.mk ?_ ?_; focus (omega))
    trivial
  · skip
    have c1 := h1
    (simp only [bsX] at c1)
    repeat (refine Ob.mk ?_ ?_; focus (omega))
    trivial
abbrev pA (c : ConfS) (i : Nat) : PeerS := c.ps.getD i peer0
def al (c : ConfS) (i : Nat) : List (List Bool) := (c.ps.take i).flatMap (·.ns)
theorem pA_mem {c : ConfS} {i : Nat} (hi : i < c.ps.length) : pA c i ∈ c.ps := by
  show c.ps.getD i peer0 ∈ c.ps
  rw [List.getD_eq_getElem?_getD, List.getElem?_eq_getElem hi]
  exact List.getElem_mem hi
theorem take_pA {c : ConfS} {i : Nat} (hi : i < c.ps.length) : c.ps.take (i + 1) = c.ps.take i ++ [pA c i] := by
  show _ = _ ++ [c.ps.getD i peer0]
  rw [List.take_succ_eq_append_getElem hi, List.getD_eq_getElem?_getD, List.getElem?_eq_getElem hi]; rfl
theorem al_next {c : ConfS} {i : Nat} (hi : i < c.ps.length) : al c (i + 1) = al c i ++ (pA c i).ns := by
  show (c.ps.take (i + 1)).flatMap (·.ns) = _
  rw [take_pA hi, List.flatMap_append]; simp [al]
theorem al_pre {c : ConfS} {i : Nat} (h : (c.ps.flatMap (·.ns)).Nodup) : (al c i).Nodup := by
  have e : c.ps.flatMap (·.ns) = al c i ++ (c.ps.drop i).flatMap (·.ns) := by unfold al; rw [← List.flatMap_append, List.take_append_drop]
  rw [e] at h
  exact (List.nodup_append.1 h).1
theorem al_len {c : ConfS} (h : ConfOk c) : ∀ i, i ≤ c.ps.length → (al c i).length ≤ 8 * i
  | 0, _ => Nat.le_refl _
  | i + 1, hi => by
    rw [al_next (by omega), List.length_append]
    have := al_len h i (by omega)
    have := (h.ps _ (pA_mem (c := c) (i := i) (by omega))).1.nl
    omega
theorem take_ns {l : List (List Bool)} {k : Nat} (hk : k < l.length) : l.take (k + 1) = l.take k ++ [l.getD k []] := by
  rw [List.take_succ_eq_append_getElem hk, List.getD_eq_getElem?_getD, List.getElem?_eq_getElem hk]; rfl
theorem al_not {c : ConfS} (h : ConfOk c) {i k : Nat} (hi : i < c.ps.length) (hk : k < (pA c i).ns.length) : (pA c i).ns.getD k [] ∉ al c i ++ (pA c i).ns.take k := by
  have h1 := al_pre (c := c) (i := i + 1) h.nd
  rw [al_next hi, ← List.take_append_drop (k + 1) (pA c i).ns, take_ns hk, ← List.append_assoc, ← List.append_assoc] at h1
  have h2 := (List.nodup_append.1 h1).1
  intro hm
  exact (List.nodup_append.1 h2).2.2 _ hm _ (List.mem_singleton.2 rfl) rfl
theorem chk_key {c : ConfS} (h : ConfOk c) {i : Nat} (hi : i < c.ps.length) : ¬ ((0 < (i : Int) ∧ (Op.bytesLess (c.ps.getD (i : Int).toNat peer0).k (c.ps.getD ((i : Int) - 1).toNat peer0).k = true ∨ (c.ps.getD (i : Int).toNat peer0).k = (c.ps.getD ((i : Int) - 1).toNat peer0).k)) ∨ (c.ps.getD (i : Int).toNat peer0).k = c.k) := by
  rintro (⟨h0, k⟩ | k)
  · have e : ((i : Int) - 1).toNat = i - 1 := by omega
    rw [e, Int.toNat_natCast, List.getD_eq_getElem?_getD, List.getD_eq_getElem?_getD, List.getElem?_eq_getElem hi, List.getElem?_eq_getElem (by omega), Option.getD_some, Option.getD_some] at k
    have q := List.pairwise_iff_getElem.1 h.inc (i - 1) i (by omega) hi (by omega)
    rcases k with k | k
    · have := q.1
      rw [k] at this; cases this
    · exact q.2 k
  · exact (h.ps _ (pA_mem hi)).2 k
theorem idxP_in {c : ConfS} (h : ConfOk c) {i : Nat} (hi : i < c.ps.length) : idxP c.ps (pA c i).k = (i : Int) := by
  refine idxP_at hi (fun j hj e => ?_) rfl
  have g : ∀ (k : Nat) (hk : k < c.ps.length), c.ps.getD k peer0 = c.ps[k] := fun k hk => by rw [List.getD_eq_getElem?_getD, List.getElem?_eq_getElem hk]; rfl
  have q := List.pairwise_iff_getElem.1 h.inc j i (by omega) hi hj
  have e2 : (c.ps.getD j peer0).k = (c.ps.getD i peer0).k := e
  rw [g j (by omega), g i hi] at e2
  exact q.2 e2.symm
set_option maxRecDepth 100000 in
set_option maxHeartbeats 4000000 in
theorem cf_ConfCheck {c : ConfS} (h : ConfOk c) : Cf Tryd.prog 23 [] [confE c] [] (.i 0) := by
  have hpo := h.port
  have hpl := h.pl
  refine Cf.introR tabT {nl := [(4, 51, 2)]} (DR _ _ _ tabT {nl := [(4, 51, 2)]}) (by kernel_rfl) tab_ok Tryd.func23 Tryd.ntmps23 rfl rfl (DR_ok tab_ok (by kernel_rfl)) (by kernel_rfl) ?_
  refine ⟨fun h1 => ?_, fun h1 => ?_⟩
  · skip
    have c1 := h1
    (simp only [bsX] at c1)
    have hk := h.k.resolve_left c1
    refine ⟨_, _, _, _, (cf_hexOk hk), ?_⟩
    repeat (refine Ob.mk ?_ ?_; focus ((exact Eq.refl _)))
    refine knF ?_
    repeat (refine Ob.mk ?_ ?_; focus (first | (exact fun hg => beq_f hg) | (exact fun hg => hg)))
    refine ⟨fun h3 => ?_, fun h3 => ?_⟩
    · skip
      have c3 := h3
      (simp only [bsX] at c3)
      exact absurd c3 (by omega)
    · skip
      have c3 := h3
      (simp only [bsX] at c3)
      refine ⟨fun h4 => ?_, fun h4 => ?_⟩
      · skip
        have c4 := h4
        (simp only [bsX] at c4)
        exact absurd c4 (by omega)
      · skip
        have c4 := h4
        (simp only [bsX] at c4)
        refine ⟨Nat, fun i => ⟨[(1, .own 1001 0), (4, .osl 61 (al c i).length), (32, peersE c.ps), (33, .i (c.ps.length : Int)), (34, .i (i : Int))], [(1001, .box [.s c.k, .i c.port, peersE c.ps] 67), (61, .rz (al c i).length 2 (fun a b => netC ((al c i).getD a []) b) 51 0)]⟩, fun i => i ≤ c.ps.length, fun i => c.ps.length - i, 0, Nat.zero_le _, ?_, fun i hx1 => ?_⟩
        · skip
          repeat (refine Ob.mk ?_ ?_; focus (first | (exact fun _ _ _ _ => rfl) | (exact Eq.refl _) | omega))
          trivial
        refine ⟨fun h5 => ?_, fun h5 => ?_⟩
        · skip
          have c5 := h5
          (simp only [bsX] at c5)
          have hi : i < c.ps.length := by omega
          have hp := h.ps _ (pA_mem hi)
          have hal := al_len h i (by omega)
          have hnl := hp.1.nl
          have hanx := al_next hi
          have e0 : al c i ++ (pA c i).ns.take 0 = al c i := by simp
          repeat (refine Ob.mk ?_ ?_; focus (first | assumption | omega))
          refine ⟨_, _, _, _, (cf_RightO (p := pA c i) hp.1), ?_⟩
          repeat (refine Ob.mk ?_ ?_; focus (first | (exact fun _ _ _ _ => rfl) | (exact Eq.refl _)))
          refine knF ?_
          refine ⟨[0, 1, 3, 7, 15, 7, 39, 7, 135, 487, 999, 2023, 4095, 8191, 16383, 32767, 65535, 32767, 163839, 524287, 1048575], by kernel_rfl, ?_⟩
          repeat (refine Ob.mk ?_ ?_; (focus (first | omega | (exact fun hg => beq_t hg) | (exact fun hg => beq_f hg) | (exact fun hg => hg) | (intro hg; ((simp at hg; omega))))))
          refine ⟨fun h7 => ?_, fun h7 => ?_⟩
          · skip
            have c7 := h7
            (simp only [bsX] at c7)
            exact absurd c7 (chk_key h hi)
          · skip
            have c7 := h7
            (simp only [bsX] at c7)
            refine ⟨Nat, fun k => ⟨[(1, .own 1001 0), (4, .osl 61 (al c i ++ (pA c i).ns.take k).length), (5, .i (i : Int)), (32, peersE c.ps), (33, .i (c.ps.length : Int)), (34, .i (i : Int)), (66, netsE (pA c i).ns), (67, .i ((pA c i).ns.length : Int)), (68, .i (k : Int))], [(1001, .box [.s c.k, .i c.port, peersE c.ps] 67), (61, .rz (al c i ++ (pA c i).ns.take k).length 2 (fun a b => netC ((al c i ++ (pA c i).ns.take k).getD a []) b) 51 0)]⟩, fun k => k ≤ (pA c i).ns.length, fun k => (pA c i).ns.length - k, 0, Nat.zero_le _, ?_, fun k hx2 => ?_⟩
            · skip
              repeat (refine Ob.mk ?_ ?_; focus (first | (exact congrArg List.length e0.symm) | (exact eqN e0.symm) | (exact fun _ _ _ _ => rfl) | (exact Eq.refl _) | omega))
              trivial
            refine ⟨fun h8 => ?_, fun h8 => ?_⟩
            · skip
              have c8 := h8
              (simp only [bsX] at c8)
              have hk : k < (pA c i).ns.length := by omega
              have h32 : ((pA c i).ns.getD k []).length ≤ 32 := nsAt_ok hp.1 k
              have hle : (al c i ++ (pA c i).ns.take k).length ≤ 1000 := by rw [List.length_append, List.length_take]; omega
              have hle2 : (al c i).length + min k (pA c i).ns.length ≤ 1000 := by omega
              have hM : al c i ++ (pA c i).ns.take (k + 1) = (al c i ++ (pA c i).ns.take k) ++ [(pA c i).ns.getD k []] := by rw [take_ns hk, List.append_assoc]
              have hl1 : (al c i ++ (pA c i).ns.take k).length + 1 = (al c i ++ (pA c i).ns.take (k + 1)).length := by rw [hM]; simp [Nat.add_assoc]
              repeat (refine Ob.mk ?_ ?_; focus (first | assumption | omega))
              refine ⟨_, _, _, _, (cf_netHas (ns := al c i ++ (pA c i).ns.take k) (n := (pA c i).ns.getD k []) hle h32), ?_⟩
              repeat (refine Ob.mk ?_ ?_; focus (first | (exact fun _ _ _ _ => rfl) | (exact Eq.refl _) | omega))
              refine ⟨fun h9 => ?_, fun h9 => ?_⟩
              · skip
                have c9 := h9
                (simp only [bsX] at c9)
                exact absurd c9 (al_not h hi hk)
              · skip
                have c9 := h9
                (simp only [bsX] at c9)
                repeat (refine Ob.mk ?_ ?_; (focus (first | (exact Eq.refl _) | omega | (simp [SrcE.len]; omega))))
                refine ⟨k + 1, (by assumption), (by (simp only [SrcE.len, Nat.zero_add, List.length_append, List.length_cons, List.length_nil]; omega)), ?_⟩
                repeat (refine Ob.mk ?_ ?_; focus (first | (exact hl1) | (exact nets_snoc rfl hM) | (exact fun _ _ _ _ => rfl) | (exact Eq.refl _) | (exact Nat.le_of_ble_eq_true rfl)))
                trivial
            · skip
              have c8 := h8
              (simp only [bsX] at c8)
              obtain rfl : k = (pA c i).ns.length := by omega
              have hA : al c i ++ (pA c i).ns.take (pA c i).ns.length = al c (i + 1) := by rw [List.take_length, hanx]
              repeat (refine Ob.mk ?_ ?_; focus (omega))
              refine ⟨i + 1, (by assumption), (by (simp only [SrcE.len, Nat.zero_add, List.length_append, List.length_cons, List.length_nil]; omega)), ?_⟩
              repeat (refine Ob.mk ?_ ?_; focus (first | (exact congrArg List.length hA) | (exact eqN hA) | (exact fun _ _ _ _ => rfl) | (exact Eq.refl _) | omega))
              trivial
        · skip
          have c5 := h5
          (simp only [bsX] at c5)
          repeat (refine Ob.mk ?_ ?_; focus ((exact Eq.refl _)))
          trivial
  · skip
    have c1 := h1
    (simp only [bsX] at c1)
    repeat (refine Ob.mk ?_ ?_; focus (first | (exact fun hg => beq_f hg) | (exact fun hg => hg)))
    refine ⟨fun h10 => ?_, fun h10 => ?_⟩
    · skip
      have c10 := h10
      (simp only [bsX] at c10)
      exact absurd c10 (by omega)
    · skip
      have c10 := h10
      (simp only [bsX] at c10)
      refine ⟨fun h11 => ?_, fun h11 => ?_⟩
      · skip
        have c11 := h11
        (simp only [bsX] at c11)
        exact absurd c11 (by omega)
      · skip
        have c11 := h11
        (simp only [bsX] at c11)
        refine ⟨Nat, fun i => ⟨[(1, .own 1001 0), (4, .osl 61 (al c i).length), (32, peersE c.ps), (33, .i (c.ps.length : Int)), (34, .i (i : Int))], [(1001, .box [.s c.k, .i c.port, peersE c.ps] 67), (61, .rz (al c i).length 2 (fun a b => netC ((al c i).getD a []) b) 51 0)]⟩, fun i => i ≤ c.ps.length, fun i => c.ps.length - i, 0, Nat.zero_le _, ?_, fun i hx1 => ?_⟩
        · skip
          repeat (refine Ob.mk ?_ ?_; focus (first | (exact fun _ _ _ _ => rfl) | (exact Eq.refl _) | omega))
          trivial
        refine ⟨fun h12 => ?_, fun h12 => ?_⟩
        · skip
          have c12 := h12
          (simp only [bsX] at c12)
          have hi : i < c.ps.length := by omega
          have hp := h.ps _ (pA_mem hi)
          have hal := al_len h i (by omega)
          have hnl := hp.1.nl
          have hanx := al_next hi
          have e0 : al c i ++ (pA c i).ns.take 0 = al c i := by simp
          repeat (refine Ob.mk ?_ ?_; focus (first | assumption | omega))
          refine ⟨_, _, _, _, (cf_RightO (p := pA c i) hp.1), ?_⟩
          repeat (refine Ob.mk ?_ ?_; focus (first | (exact fun _ _ _ _ => rfl) | (exact Eq.refl _)))
          refine knF ?_
          refine ⟨[0, 1, 3, 7, 15, 7, 39, 7, 135, 487, 999, 2023, 4095, 8191, 16383, 32767, 65535, 32767, 163839, 524287, 1048575], by kernel_rfl, ?_⟩
          repeat (refine Ob.mk ?_ ?_; (focus (first | omega | (exact fun hg => beq_t hg) | (exact fun hg => beq_f hg) | (exact fun hg => hg) | (intro hg; ((simp at hg; omega))))))
          refine ⟨fun h14 => ?_, fun h14 => ?_⟩
          · skip
            have c14 := h14
            (simp only [bsX] at c14)
            exact absurd c14 (chk_key h hi)
          · skip
            have c14 := h14
            (simp only [bsX] at c14)
            refine ⟨Nat, fun k => ⟨[(1, .own 1001 0), (4, .osl 61 (al c i ++ (pA c i).ns.take k).length), (5, .i (i : Int)), (32, peersE c.ps), (33, .i (c.ps.length : Int)), (34, .i (i : Int)), (66, netsE (pA c i).ns), (67, .i ((pA c i).ns.length : Int)), (68, .i (k : Int))], [(1001, .box [.s c.k, .i c.port, peersE c.ps] 67), (61, .rz (al c i ++ (pA c i).ns.take k).length 2 (fun a b => netC ((al c i ++ (pA c i).ns.take k).getD a []) b) 51 0)]⟩, fun k => k ≤ (pA c i).ns.length, fun k => (pA c i).ns.length - k, 0, Nat.zero_le _, ?_, fun k hx2 => ?_⟩
            · skip
              repeat (refine Ob.mk ?_ ?_; focus (first | (exact congrArg List.length e0.symm) | (exact eqN e0.symm) | (exact fun _ _ _ _ => rfl) | (exact Eq.refl _) | omega))
              trivial
            refine ⟨fun h15 => ?_, fun h15 => ?_⟩
            · skip
              have c15 := h15
              (simp only [bsX] at c15)
              have hk : k < (pA c i).ns.length := by omega
              have h32 : ((pA c i).ns.getD k []).length ≤ 32 := nsAt_ok hp.1 k
              have hle : (al c i ++ (pA c i).ns.take k).length ≤ 1000 := by rw [List.length_append, List.length_take]; omega
              have hle2 : (al c i).length + min k (pA c i).ns.length ≤ 1000 := by omega
              have hM : al c i ++ (pA c i).ns.take (k + 1) = (al c i ++ (pA c i).ns.take k) ++ [(pA c i).ns.getD k []] := by rw [take_ns hk, List.append_assoc]
              have hl1 : (al c i ++ (pA c i).ns.take k).length + 1 = (al c i ++ (pA c i).ns.take (k + 1)).length := by rw [hM]; simp [Nat.add_assoc]
              repeat (refine Ob.mk ?_ ?_; focus (first | assumption | omega))
              refine ⟨_, _, _, _, (cf_netHas (ns := al c i ++ (pA c i).ns.take k) (n := (pA c i).ns.getD k []) hle h32), ?_⟩
              repeat (refine Ob.mk ?_ ?_; focus (first | (exact fun _ _ _ _ => rfl) | (exact Eq.refl _) | omega))
              refine ⟨fun h16 => ?_, fun h16 => ?_⟩
              · skip
                have c16 := h16
                (simp only [bsX] at c16)
                exact absurd c16 (al_not h hi hk)
              · skip
                have c16 := h16
                (simp only [bsX] at c16)
                repeat (refine Ob.mk ?_ ?_; (focus (first | (exact Eq.refl _) | omega | (simp [SrcE.len]; omega))))
                refine ⟨k + 1, (by assumption), (by (simp only [SrcE.len, Nat.zero_add, List.length_append, List.length_cons, List.length_nil]; omega)), ?_⟩
                repeat (refine Ob.mk ?_ ?_; focus (first | (exact hl1) | (exact nets_snoc rfl hM) | (exact fun _ _ _ _ => rfl) | (exact Eq.refl _) | (exact Nat.le_of_ble_eq_true rfl)))
                trivial
            · skip
              have c15 := h15
              (simp only [bsX] at c15)
              obtain rfl : k = (pA c i).ns.length := by omega
              have hA : al c i ++ (pA c i).ns.take (pA c i).ns.length = al c (i + 1) := by rw [List.take_length, hanx]
              repeat (refine Ob.mk ?_ ?_; focus (omega))
              refine ⟨i + 1, (by assumption), (by (simp only [SrcE.len, Nat.zero_add, List.length_append, List.length_cons, List.length_nil]; omega)), ?_⟩
              repeat (refine Ob.mk ?_ ?_; focus (first | (exact congrArg List.length hA) | (exact eqN hA) | (exact fun _ _ _ _ => rfl) | (exact Eq.refl _) | omega))
              trivial
        · skip
          have c12 := h12
          (simp only [bsX] at c12)
          repeat (refine Ob.mk ?_ ?_; focus ((exact Eq.refl _)))
          trivial
end Go.Proofs.YtfpglljpngiipaaDoor
