/- Package diff: what one peer is turned into another one by: plain words, a contract. -/
import Derived.Test.YtfpglljpngiipaaDoorCShow
import Derived.Test.YtfpglljpngiipaaDoorCSame
namespace Go.Proofs.YtfpglljpngiipaaDoor
open Go.RowKit Go.Lib
set_option linter.unusedVariables false
set_option linter.unusedSimpArgs false

def fI (ps : List PeerS) (k : List UInt8) : Int := if idxP ps k < 0 then 0 else idxP ps k
def fE (ps : List PeerS) (k : List UInt8) : Int := if idxP ps k < 0 then 5 else 0
def fP (ps : List PeerS) (k : List UInt8) : PeerS := ps.getD (fI ps k).toNat peer0
theorem cf_FindF {c : ConfS} {k : List UInt8} (h : ConfOk c) : Cf Tryd.prog 21 [] [confE c, .s k] [] (.tup [.i (fI c.ps k), .i (fE c.ps k)]) := cf_Find (Nat.le_trans h.pl (by decide))
theorem idxP_cases (ps : List PeerS) (k : List UInt8) : (idxP ps k = -1 ∧ ∀ p ∈ ps, p.k ≠ k) ∨ ∃ i, idxP ps k = ((i : Nat) : Int) ∧ i < ps.length ∧ (ps.getD i peer0).k = k := by
  unfold idxP
  by_cases h : k ∈ ps.map (·.k)
  · right
    rw [if_pos h]
    have h1 := List.idxOf_lt_length_of_mem h
    refine ⟨_, rfl, by simpa using h1, ?_⟩
    have h2 := List.getElem_idxOf h1
    rw [List.getElem_map] at h2
    rw [List.getD_eq_getElem?_getD, List.getElem?_eq_getElem (by simpa using h1)]
    exact h2
  · left
    rw [if_neg h]
    exact ⟨rfl, fun p hp e => h (List.mem_map.2 ⟨p, hp, e⟩)⟩
theorem fI_in {ps : List PeerS} {k : List UInt8} (h : fE ps k = 0) : 0 ≤ fI ps k ∧ fI ps k < (ps.length : Int) ∧ (fI ps k).toNat < ps.length ∧ fP ps k ∈ ps ∧ (fP ps k).k = k := by
  unfold fE at h
  unfold fP fI
  rcases idxP_cases ps k with ⟨e, _⟩ | ⟨i, e, hi, hk⟩
  · rw [e] at h; cases h
  · rw [e, if_neg (by omega), Int.toNat_natCast]
    exact ⟨by omega, by omega, hi, pA_mem (c := ⟨[], 0, ps⟩) hi, hk⟩
def goneB (p q : PeerS) : Bool := !decide (p.e = []) && decide (q.e = [])
set_option maxRecDepth 100000 in
set_option maxHeartbeats 4000000 in
theorem cf_gone {p q : PeerS} : Cf Tryd.prog 62 [] [peerE p, peerE q] [] (.b (goneB p q)) := by
  refine Cf.introR tabT {} D0 (by kernel_rfl) tab_ok Tryd.func62 Tryd.ntmps62 rfl rfl (D0_ok) (by kernel_rfl) ?_
  repeat (refine Ob.mk ?_ ?_; focus (first | (exact Eq.refl _) | (exact fun hg => beq_t hg) | (exact fun hg => hg)))
  trivial
def k6 (p q : PeerS) : List SetS := if p.s = q.s then [] else [⟨6, q.s, 0, []⟩]
def k7 (p q : PeerS) : List SetS := if p.e = q.e then [] else [⟨7, q.e, 0, []⟩]
def k8 (p q : PeerS) : List SetS := if p.a = q.a then [] else [⟨8, [], q.a, []⟩]
def chH (p q : PeerS) : List SetS := k6 p q ++ k7 p q ++ k8 p q
def chL (p q : PeerS) (k : Nat) : List SetS := (chH p q ++ [⟨9, [], 0, []⟩]) ++ (q.ns.take k).map n10
def chO (p q : PeerS) : List SetS := if p.ns = q.ns then chH p q else chL p q q.ns.length
def chP (p q : PeerS) : List SetS := if chO p q = [] then [] else ⟨4, q.k, 0, []⟩ :: chO p q
theorem k6_ne {p q : PeerS} (h : ¬ p.s = q.s) : k6 p q = [⟨6, q.s, 0, []⟩] := if_neg h
theorem k6_eq {p q : PeerS} (h : p.s = q.s) : k6 p q = [] := if_pos h
theorem k7_ne {p q : PeerS} (h : ¬ p.e = q.e) : k7 p q = [⟨7, q.e, 0, []⟩] := if_neg h
theorem k7_eq {p q : PeerS} (h : p.e = q.e) : k7 p q = [] := if_pos h
theorem k8_ne {p q : PeerS} (h : ¬ p.a = q.a) : k8 p q = [⟨8, [], q.a, []⟩] := if_neg h
theorem k8_eq {p q : PeerS} (h : p.a = q.a) : k8 p q = [] := if_pos h
theorem chL_next {p q : PeerS} {k : Nat} (hk : k < q.ns.length) : chL p q (k + 1) = chL p q k ++ [n10 (q.ns.getD k [])] := by
  unfold chL
  rw [take_ns hk, List.map_append, ← List.append_assoc]; rfl
theorem chH_len (p q : PeerS) : (chH p q).length ≤ 3 := by
  unfold chH k6 k7 k8
  split <;> split <;> split <;> simp
theorem chL_len {p q : PeerS} (k : Nat) : 1 ≤ (chL p q k).length ∧ (chL p q k).length ≤ 4 + k := by
  unfold chL
  rw [List.length_append, List.length_append, List.length_map, List.length_take, List.length_singleton]
  have := chH_len p q
  omega
theorem chP_of {p q : PeerS} {O : List SetS} (h : chO p q = O) (hO : O ≠ []) : chP p q = ⟨4, q.k, 0, []⟩ :: O := by
  unfold chP; rw [h, if_neg hO]
theorem chP_nil {p q : PeerS} (h : chO p q = []) : chP p q = [] := by unfold chP; rw [if_pos h]
theorem snoc_len {A : Type} (l : List A) (x : A) : l.length + 1 = (l ++ [x]).length := by simp
set_option maxRecDepth 100000 in
set_option maxHeartbeats 4000000 in
theorem cf_changeO {p q : PeerS} (hp : PeerOk p) (hq : PeerOk q) : Cf Tryd.prog 63 [] [peerE p, peerE q] [] (.lz (chP p q).length 5 (stQ (chP p q))) := by
  have hnl := hq.nl
  have hH := chH_len p q
  refine Cf.introR tabT {nl := [(5, 53, 5)], fz := [71], cu := [4, 6, 8]} D0 (by kernel_rfl) tab_ok Tryd.func63 Tryd.ntmps63 rfl rfl (D0_ok) (by kernel_rfl) ?_
  refine ⟨fun h1 => ?_, fun h1 => ?_⟩
  · skip
    have c1 := h1
    (simp only [bsX] at c1)
    have e6 := k6_ne c1
    repeat (refine Ob.mk ?_ ?_; focus (first | (exact Eq.refl _) | (exact Nat.le_of_ble_eq_true rfl)))
    have l6 : (k6 p q).length ≤ 1 := by rw [e6]; simp
    refine ⟨⟨[(2, .own 1002 0), (3, .own 1003 0), (5, .osl 61 (k6 p q).length)], [(1002, .box [.s p.k, .s p.s, .s p.e, .i p.a, netsE p.ns] 71), (1003, .box [.s q.k, .s q.s, .s q.e, .i q.a, netsE q.ns] 71), (61, .rz (k6 p q).length 5 (stQ (k6 p q)) 53 0)]⟩, ?_, ?_⟩
    · skip
      repeat (refine Ob.mk ?_ ?_; (focus (first | (rw [e6]; first | rfl | exact sq_s (L := []) rfl sq_0 rfl rfl) | (exact Eq.refl _) | (exact Nat.le_of_ble_eq_true rfl) | (intro hg; ((intro hq; ((simp_all; done))))))))
      trivial
    refine ⟨fun h2 => ?_, fun h2 => ?_⟩
    · skip
      have c2 := h2
      (simp only [bsX] at c2)
      have e7 : k6 p q ++ k7 p q = k6 p q ++ [⟨7, q.e, 0, []⟩] := congrArg (k6 p q ++ ·) (k7_ne c2)
      have e7l : (k6 p q).length + 1 = (k6 p q ++ k7 p q).length := by rw [e7]; exact snoc_len _ _
      repeat (refine Ob.mk ?_ ?_; (focus (first | (exact (show (k6 p q).length + 1 ≤ 1000000000 by omega)) | (rw [e6]; rfl) | (exact Eq.refl _))))
      have l7 : (k6 p q ++ k7 p q).length ≤ 2 := by (rw [e7]; ((rw [List.length_append]; show (k6 p q).length + 1 ≤ 2; omega)))
      refine ⟨⟨[(2, .own 1002 0), (3, .own 1003 0), (5, .osl 61 (k6 p q ++ k7 p q).length)], [(1002, .box [.s p.k, .s p.s, .s p.e, .i p.a, netsE p.ns] 71), (1003, .box [.s q.k, .s q.s, .s q.e, .i q.a, netsE q.ns] 71), (61, .rz (k6 p q ++ k7 p q).length 5 (stQ (k6 p q ++ k7 p q)) 53 0)]⟩, ?_, ?_⟩
      · skip
        repeat (refine Ob.mk ?_ ?_; (focus (first | (exact e7l) | (rw [e7]; exact sq_s rfl (fun _ _ _ _ => rfl) rfl rfl) | (exact Eq.refl _) | (exact Nat.le_of_ble_eq_true rfl) | (intro hg; ((intro hq; ((simp_all; done))))))))
        trivial
      refine ⟨fun h3 => ?_, fun h3 => ?_⟩
      · skip
        have c3 := h3
        (simp only [bsX] at c3)
        have e8 : chH p q = (k6 p q ++ k7 p q) ++ [⟨8, [], q.a, []⟩] := congrArg ((k6 p q ++ k7 p q) ++ ·) (k8_ne c3)
        have e8l : (k6 p q ++ k7 p q).length + 1 = (chH p q).length := by rw [e8]; exact snoc_len _ _
        repeat (refine Ob.mk ?_ ?_; (focus (first | (exact (show (k6 p q ++ k7 p q).length + 1 ≤ 1000000000 by omega)) | (rw [e6]; rfl) | (exact Eq.refl _))))
        refine ⟨⟨[(2, .own 1002 0), (3, .own 1003 0), (5, .osl 61 (chH p q).length)], [(1002, .box [.s p.k, .s p.s, .s p.e, .i p.a, netsE p.ns] 71), (1003, .box [.s q.k, .s q.s, .s q.e, .i q.a, netsE q.ns] 71), (61, .rz (chH p q).length 5 (stQ (chH p q)) 53 0)]⟩, ?_, ?_⟩
        · skip
          repeat (refine Ob.mk ?_ ?_; (focus (first | (exact e8l) | (rw [e8]; exact sq_s rfl (fun _ _ _ _ => rfl) rfl rfl) | (exact Eq.refl _) | (exact Nat.le_of_ble_eq_true rfl) | (intro hg; ((intro hq; ((simp_all; done))))))))
          trivial
        refine ⟨_, _, _, _, (cf_nsEqK hp hq), ?_⟩
        repeat (refine Ob.mk ?_ ?_; (focus (first | (exact Eq.refl _) | (intro hg; ((intro hq; ((simp_all; done))))))))
        refine ⟨fun h4 => ?_, fun h4 => ?_⟩
        · skip
          have c4 := h4
          (simp only [bsX] at c4)
          have eL : chL p q 0 = chH p q ++ [⟨9, [], 0, []⟩] := List.append_nil _
          have eLl : (chH p q).length + 1 = (chL p q 0).length := by rw [eL]; exact snoc_len _ _
          have eO : chO p q = chL p q q.ns.length := if_neg c4
          repeat (refine Ob.mk ?_ ?_; (focus (first | (exact (show (chH p q).length + 1 ≤ 1000000000 by omega)) | (rw [e8]; rfl) | (exact Eq.refl _))))
          refine ⟨Nat, fun k => ⟨[(3, .own 1003 0), (5, .osl 61 (chL p q k).length), (52, netsE q.ns), (53, .i (q.ns.length : Int)), (54, .i (k : Int))], [(1003, .box [.s q.k, .s q.s, .s q.e, .i q.a, netsE q.ns] 71), (61, .rz (chL p q k).length 5 (stQ (chL p q k)) 53 0)]⟩, fun k => k ≤ q.ns.length, fun k => q.ns.length - k, 0, Nat.zero_le _, ?_, fun k hx1 => ?_⟩
          · skip
            repeat (refine Ob.mk ?_ ?_; (focus (first | (exact eLl) | (rw [eL]; exact sq_s rfl (fun _ _ _ _ => rfl) rfl rfl) | (exact Eq.refl _) | (exact Nat.le_of_ble_eq_true rfl) | (intro hg; ((intro hq; ((simp_all; done))))))))
            trivial
          refine ⟨fun h5 => ?_, fun h5 => ?_⟩
          · skip
            have c5 := h5
            (simp only [bsX] at c5)
            have hk : k < q.ns.length := by omega
            have hM := chL_next (p := p) hk
            have hl1 : (chL p q k).length + 1 = (chL p q (k + 1)).length := by rw [hM]; simp
            have hsl := chL_len (p := p) (q := q) k
            repeat (refine Ob.mk ?_ ?_; (focus (first | (exact Eq.refl _) | assumption | omega | (simp only [SrcE.len, Nat.zero_add, List.length_append, List.length_cons, List.length_nil]; omega))))
            refine ⟨k + 1, (by assumption), (by (simp only [SrcE.len, Nat.zero_add, List.length_append, List.length_cons, List.length_nil]; omega)), ?_⟩
            repeat (refine Ob.mk ?_ ?_; (focus (first | (exact hl1) | (exact sq_snoc (L := chL p q k) (s := n10 (q.ns.getD k [])) (fun _ _ _ _ => rfl) rfl rfl hM) | (exact Eq.refl _) | (exact Nat.le_of_ble_eq_true rfl) | (intro hg; ((intro hq; ((simp_all; done))))))))
            trivial
          · skip
            have c5 := h5
            (simp only [bsX] at c5)
            obtain rfl : k = q.ns.length := by omega
            have hsl := chL_len (p := p) (q := q) q.ns.length
            refine ⟨fun h6 => ?_, fun h6 => ?_⟩
            · skip
              have c6 := h6
              (simp only [bsX] at c6)
              have hz := c6
              repeat (refine Ob.mk ?_ ?_; (focus (((rw [chP_nil (eO.trans (List.length_eq_zero_iff.1 (by omega)))]; rfl)))))
              trivial
            · skip
              have c6 := h6
              (simp only [bsX] at c6)
              have hz := c6
              repeat (refine Ob.mk ?_ ?_; (focus (first | (rw [chP_of eO (fun e => by (rw [e] at hz; exact hz rfl))]; first | exact (Nat.add_comm ..) | exact sq_c rfl (fun _ _ _ _ => rfl) rfl) | (exact Eq.refl _) | (simp only [SrcE.len, Nat.zero_add, List.length_append, List.length_cons, List.length_nil]; omega))))
              trivial
        · skip
          have c4 := h4
          (simp only [bsX] at c4)
          have eO : chO p q = chH p q := if_pos (by simpa using h4)
          refine ⟨fun h7 => ?_, fun h7 => ?_⟩
          · skip
            have c7 := h7
            (simp only [bsX] at c7)
            have hz := c7
            repeat (refine Ob.mk ?_ ?_; (focus (((rw [chP_nil (eO.trans (List.length_eq_zero_iff.1 (by omega)))]; rfl)))))
            trivial
          · skip
            have c7 := h7
            (simp only [bsX] at c7)
            have hz := c7
            repeat (refine Ob.mk ?_ ?_; (focus (first | (rw [e8]; rfl) | (rw [chP_of eO (fun e => by (rw [e] at hz; exact hz rfl))]; first | exact (Nat.add_comm ..) | exact sq_c rfl (fun _ _ _ _ => rfl) rfl) | (exact Eq.refl _) | (simp only [SrcE.len, Nat.zero_add, List.length_append, List.length_cons, List.length_nil]; omega))))
            trivial
      · skip
        have c3 := h3
        (simp only [bsX] at c3)
        have e8 : chH p q = k6 p q ++ k7 p q := (congrArg ((k6 p q ++ k7 p q) ++ ·) (k8_eq (by simpa using h3))).trans (List.append_nil _)
        refine ⟨⟨[(2, .own 1002 0), (3, .own 1003 0), (5, .osl 61 (chH p q).length)], [(1002, .box [.s p.k, .s p.s, .s p.e, .i p.a, netsE p.ns] 71), (1003, .box [.s q.k, .s q.s, .s q.e, .i q.a, netsE q.ns] 71), (61, .rz (chH p q).length 5 (stQ (chH p q)) 53 0)]⟩, ?_, ?_⟩
        · skip
          repeat (refine Ob.mk ?_ ?_; (focus (first | (rw [e8]; exact fun _ _ _ _ => rfl) | (exact Eq.refl _) | omega | (intro hg; ((intro hq; ((simp_all; done))))) | (simp_all; done))))
          trivial
        refine ⟨_, _, _, _, (cf_nsEqK hp hq), ?_⟩
        repeat (refine Ob.mk ?_ ?_; (focus (first | (exact Eq.refl _) | (intro hg; ((intro hq; ((simp_all; done))))))))
        refine ⟨fun h8 => ?_, fun h8 => ?_⟩
        · skip
          have c8 := h8
          (simp only [bsX] at c8)
          have eL : chL p q 0 = chH p q ++ [⟨9, [], 0, []⟩] := List.append_nil _
          have eLl : (chH p q).length + 1 = (chL p q 0).length := by rw [eL]; exact snoc_len _ _
          have eO : chO p q = chL p q q.ns.length := if_neg c8
          repeat (refine Ob.mk ?_ ?_; (focus (first | (exact (show (chH p q).length + 1 ≤ 1000000000 by omega)) | (rw [e8]; rfl) | (exact Eq.refl _))))
          refine ⟨Nat, fun k => ⟨[(3, .own 1003 0), (5, .osl 61 (chL p q k).length), (52, netsE q.ns), (53, .i (q.ns.length : Int)), (54, .i (k : Int))], [(1003, .box [.s q.k, .s q.s, .s q.e, .i q.a, netsE q.ns] 71), (61, .rz (chL p q k).length 5 (stQ (chL p q k)) 53 0)]⟩, fun k => k ≤ q.ns.length, fun k => q.ns.length - k, 0, Nat.zero_le _, ?_, fun k hx1 => ?_⟩
          · skip
            repeat (refine Ob.mk ?_ ?_; (focus (first | (exact eLl) | (rw [eL]; exact sq_s rfl (fun _ _ _ _ => rfl) rfl rfl) | (exact Eq.refl _) | (exact Nat.le_of_ble_eq_true rfl) | (intro hg; ((intro hq; ((simp_all; done))))))))
            trivial
          refine ⟨fun h9 => ?_, fun h9 => ?_⟩
          · skip
            have c9 := h9
            (simp only [bsX] at c9)
            have hk : k < q.ns.length := by omega
            have hM := chL_next (p := p) hk
            have hl1 : (chL p q k).length + 1 = (chL p q (k + 1)).length := by rw [hM]; simp
            have hsl := chL_len (p := p) (q := q) k
            repeat (refine Ob.mk ?_ ?_; (focus (first | (exact Eq.refl _) | assumption | omega | (simp only [SrcE.len, Nat.zero_add, List.length_append, List.length_cons, List.length_nil]; omega))))
            refine ⟨k + 1, (by assumption), (by (simp only [SrcE.len, Nat.zero_add, List.length_append, List.length_cons, List.length_nil]; omega)), ?_⟩
            repeat (refine Ob.mk ?_ ?_; (focus (first | (exact hl1) | (exact sq_snoc (L := chL p q k) (s := n10 (q.ns.getD k [])) (fun _ _ _ _ => rfl) rfl rfl hM) | (exact Eq.refl _) | (exact Nat.le_of_ble_eq_true rfl) | (intro hg; ((intro hq; ((simp_all; done))))))))
            trivial
          · skip
            have c9 := h9
            (simp only [bsX] at c9)
            obtain rfl : k = q.ns.length := by omega
            have hsl := chL_len (p := p) (q := q) q.ns.length
            refine ⟨fun h10 => ?_, fun h10 => ?_⟩
            · skip
              have c10 := h10
              (simp only [bsX] at c10)
              have hz := c10
              repeat (refine Ob.mk ?_ ?_; (focus (((rw [chP_nil (eO.trans (List.length_eq_zero_iff.1 (by omega)))]; rfl)))))
              trivial
            · skip
              have c10 := h10
              (simp only [bsX] at c10)
              have hz := c10
              repeat (refine Ob.mk ?_ ?_; (focus (first | (rw [chP_of eO (fun e => by (rw [e] at hz; exact hz rfl))]; first | exact (Nat.add_comm ..) | exact sq_c rfl (fun _ _ _ _ => rfl) rfl) | (exact Eq.refl _) | (simp only [SrcE.len, Nat.zero_add, List.length_append, List.length_cons, List.length_nil]; omega))))
              trivial
        · skip
          have c8 := h8
          (simp only [bsX] at c8)
          have eO : chO p q = chH p q := if_pos (by simpa using h8)
          refine ⟨fun h11 => ?_, fun h11 => ?_⟩
          · skip
            have c11 := h11
            (simp only [bsX] at c11)
            have hz := c11
            repeat (refine Ob.mk ?_ ?_; (focus (((rw [chP_nil (eO.trans (List.length_eq_zero_iff.1 (by omega)))]; rfl)))))
            trivial
          · skip
            have c11 := h11
            (simp only [bsX] at c11)
            have hz := c11
            repeat (refine Ob.mk ?_ ?_; (focus (first | (rw [e8]; rfl) | (rw [chP_of eO (fun e => by (rw [e] at hz; exact hz rfl))]; first | exact (Nat.add_comm ..) | exact sq_c rfl (fun _ _ _ _ => rfl) rfl) | (exact Eq.refl _) | (simp only [SrcE.len, Nat.zero_add, List.length_append, List.length_cons, List.length_nil]; omega))))
            trivial
    · skip
      have c2 := h2
      (simp only [bsX] at c2)
      have e7 : k6 p q ++ k7 p q = k6 p q := (congrArg (k6 p q ++ ·) (k7_eq (by simpa using h2))).trans (List.append_nil _)
      have l7 : (k6 p q ++ k7 p q).length ≤ 2 := by (rw [e7]; omega)
      refine ⟨⟨[(2, .own 1002 0), (3, .own 1003 0), (5, .osl 61 (k6 p q ++ k7 p q).length)], [(1002, .box [.s p.k, .s p.s, .s p.e, .i p.a, netsE p.ns] 71), (1003, .box [.s q.k, .s q.s, .s q.e, .i q.a, netsE q.ns] 71), (61, .rz (k6 p q ++ k7 p q).length 5 (stQ (k6 p q ++ k7 p q)) 53 0)]⟩, ?_, ?_⟩
      · skip
        repeat (refine Ob.mk ?_ ?_; (focus (first | (rw [e7]; exact fun _ _ _ _ => rfl) | (exact Eq.refl _) | omega | (intro hg; ((intro hq; ((simp_all; done))))) | (simp_all; done))))
        trivial
      refine ⟨fun h12 => ?_, fun h12 => ?_⟩
      · skip
        have c12 := h12
        (simp only [bsX] at c12)
        have e8 : chH p q = (k6 p q ++ k7 p q) ++ [⟨8, [], q.a, []⟩] := congrArg ((k6 p q ++ k7 p q) ++ ·) (k8_ne c12)
        have e8l : (k6 p q ++ k7 p q).length + 1 = (chH p q).length := by rw [e8]; exact snoc_len _ _
        repeat (refine Ob.mk ?_ ?_; (focus (first | (exact (show (k6 p q ++ k7 p q).length + 1 ≤ 1000000000 by omega)) | (rw [e6]; rfl) | (exact Eq.refl _))))
        refine ⟨⟨[(2, .own 1002 0), (3, .own 1003 0), (5, .osl 61 (chH p q).length)], [(1002, .box [.s p.k, .s p.s, .s p.e, .i p.a, netsE p.ns] 71), (1003, .box [.s q.k, .s q.s, .s q.e, .i q.a, netsE q.ns] 71), (61, .rz (chH p q).length 5 (stQ (chH p q)) 53 0)]⟩, ?_, ?_⟩
        · skip
          repeat (refine Ob.mk ?_ ?_; (focus (first | (exact e8l) | (rw [e8]; exact sq_s rfl (fun _ _ _ _ => rfl) rfl rfl) | (exact Eq.refl _) | (exact Nat.le_of_ble_eq_true rfl) | (intro hg; ((intro hq; ((simp_all; done))))))))
          trivial
        refine ⟨_, _, _, _, (cf_nsEqK hp hq), ?_⟩
        repeat (refine Ob.mk ?_ ?_; (focus (first | (exact Eq.refl _) | (intro hg; ((intro hq; ((simp_all; done))))))))
        refine ⟨fun h13 => ?_, fun h13 => ?_⟩
        · skip
          have c13 := h13
          (simp only [bsX] at c13)
          have eL : chL p q 0 = chH p q ++ [⟨9, [], 0, []⟩] := List.append_nil _
          have eLl : (chH p q).length + 1 = (chL p q 0).length := by rw [eL]; exact snoc_len _ _
          have eO : chO p q = chL p q q.ns.length := if_neg c13
          repeat (refine Ob.mk ?_ ?_; (focus (first | (exact (show (chH p q).length + 1 ≤ 1000000000 by omega)) | (rw [e8]; rfl) | (exact Eq.refl _))))
          refine ⟨Nat, fun k => ⟨[(3, .own 1003 0), (5, .osl 61 (chL p q k).length), (52, netsE q.ns), (53, .i (q.ns.length : Int)), (54, .i (k : Int))], [(1003, .box [.s q.k, .s q.s, .s q.e, .i q.a, netsE q.ns] 71), (61, .rz (chL p q k).length 5 (stQ (chL p q k)) 53 0)]⟩, fun k => k ≤ q.ns.length, fun k => q.ns.length - k, 0, Nat.zero_le _, ?_, fun k hx1 => ?_⟩
          · skip
            repeat (refine Ob.mk ?_ ?_; (focus (first | (exact eLl) | (rw [eL]; exact sq_s rfl (fun _ _ _ _ => rfl) rfl rfl) | (exact Eq.refl _) | (exact Nat.le_of_ble_eq_true rfl) | (intro hg; ((intro hq; ((simp_all; done))))))))
            trivial
          refine ⟨fun h14 => ?_, fun h14 => ?_⟩
          · skip
            have c14 := h14
            (simp only [bsX] at c14)
            have hk : k < q.ns.length := by omega
            have hM := chL_next (p := p) hk
            have hl1 : (chL p q k).length + 1 = (chL p q (k + 1)).length := by rw [hM]; simp
            have hsl := chL_len (p := p) (q := q) k
            repeat (refine Ob.mk ?_ ?_; (focus (first | (exact Eq.refl _) | assumption | omega | (simp only [SrcE.len, Nat.zero_add, List.length_append, List.length_cons, List.length_nil]; omega))))
            refine ⟨k + 1, (by assumption), (by (simp only [SrcE.len, Nat.zero_add, List.length_append, List.length_cons, List.length_nil]; omega)), ?_⟩
            repeat (refine Ob.mk ?_ ?_; (focus (first | (exact hl1) | (exact sq_snoc (L := chL p q k) (s := n10 (q.ns.getD k [])) (fun _ _ _ _ => rfl) rfl rfl hM) | (exact Eq.refl _) | (exact Nat.le_of_ble_eq_true rfl) | (intro hg; ((intro hq; ((simp_all; done))))))))
            trivial
          · skip
            have c14 := h14
            (simp only [bsX] at c14)
            obtain rfl : k = q.ns.length := by omega
            have hsl := chL_len (p := p) (q := q) q.ns.length
            refine ⟨fun h15 => ?_, fun h15 => ?_⟩
            · skip
              have c15 := h15
              (simp only [bsX] at c15)
              have hz := c15
              repeat (refine Ob.mk ?_ ?_; (focus (((rw [chP_nil (eO.trans (List.length_eq_zero_iff.1 (by omega)))]; rfl)))))
              trivial
            · skip
              have c15 := h15
              (simp only [bsX] at c15)
              have hz := c15
              repeat (refine Ob.mk ?_ ?_; (focus (first | (rw [chP_of eO (fun e => by (rw [e] at hz; exact hz rfl))]; first | exact (Nat.add_comm ..) | exact sq_c rfl (fun _ _ _ _ => rfl) rfl) | (exact Eq.refl _) | (simp only [SrcE.len, Nat.zero_add, List.length_append, List.length_cons, List.length_nil]; omega))))
              trivial
        · skip
          have c13 := h13
          (simp only [bsX] at c13)
          have eO : chO p q = chH p q := if_pos (by simpa using h13)
          refine ⟨fun h16 => ?_, fun h16 => ?_⟩
          · skip
            have c16 := h16
            (simp only [bsX] at c16)
            have hz := c16
            repeat (refine Ob.mk ?_ ?_; (focus (((rw [chP_nil (eO.trans (List.length_eq_zero_iff.1 (by omega)))]; rfl)))))
            trivial
          · skip
            have c16 := h16
            (simp only [bsX] at c16)
            have hz := c16
            repeat (refine Ob.mk ?_ ?_; (focus (first | (rw [e8]; rfl) | (rw [chP_of eO (fun e => by (rw [e] at hz; exact hz rfl))]; first | exact (Nat.add_comm ..) | exact sq_c rfl (fun _ _ _ _ => rfl) rfl) | (exact Eq.refl _) | (simp only [SrcE.len, Nat.zero_add, List.length_append, List.length_cons, List.length_nil]; omega))))
            trivial
      · skip
        have c12 := h12
        (simp only [bsX] at c12)
        have e8 : chH p q = k6 p q ++ k7 p q := (congrArg ((k6 p q ++ k7 p q) ++ ·) (k8_eq (by simpa using h12))).trans (List.append_nil _)
        refine ⟨⟨[(2, .own 1002 0), (3, .own 1003 0), (5, .osl 61 (chH p q).length)], [(1002, .box [.s p.k, .s p.s, .s p.e, .i p.a, netsE p.ns] 71), (1003, .box [.s q.k, .s q.s, .s q.e, .i q.a, netsE q.ns] 71), (61, .rz (chH p q).length 5 (stQ (chH p q)) 53 0)]⟩, ?_, ?_⟩
        · skip
          repeat (refine Ob.mk ?_ ?_; (focus (first | (rw [e8]; exact fun _ _ _ _ => rfl) | (exact Eq.refl _) | omega | (intro hg; ((intro hq; ((simp_all; done))))) | (simp_all; done))))
          trivial
        refine ⟨_, _, _, _, (cf_nsEqK hp hq), ?_⟩
        repeat (refine Ob.mk ?_ ?_; (focus (first | (exact Eq.refl _) | (intro hg; ((intro hq; ((simp_all; done))))))))
        refine ⟨fun h17 => ?_, fun h17 => ?_⟩
        · skip
          have c17 := h17
          (simp only [bsX] at c17)
          have eL : chL p q 0 = chH p q ++ [⟨9, [], 0, []⟩] := List.append_nil _
          have eLl : (chH p q).length + 1 = (chL p q 0).length := by rw [eL]; exact snoc_len _ _
          have eO : chO p q = chL p q q.ns.length := if_neg c17
          repeat (refine Ob.mk ?_ ?_; (focus (first | (exact (show (chH p q).length + 1 ≤ 1000000000 by omega)) | (rw [e8]; rfl) | (exact Eq.refl _))))
          refine ⟨Nat, fun k => ⟨[(3, .own 1003 0), (5, .osl 61 (chL p q k).length), (52, netsE q.ns), (53, .i (q.ns.length : Int)), (54, .i (k : Int))], [(1003, .box [.s q.k, .s q.s, .s q.e, .i q.a, netsE q.ns] 71), (61, .rz (chL p q k).length 5 (stQ (chL p q k)) 53 0)]⟩, fun k => k ≤ q.ns.length, fun k => q.ns.length - k, 0, Nat.zero_le _, ?_, fun k hx1 => ?_⟩
          · skip
            repeat (refine Ob.mk ?_ ?_; (focus (first | (exact eLl) | (rw [eL]; exact sq_s rfl (fun _ _ _ _ => rfl) rfl rfl) | (exact Eq.refl _) | (exact Nat.le_of_ble_eq_true rfl) | (intro hg; ((intro hq; ((simp_all; done))))))))
            trivial
          refine ⟨fun h18 => ?_, fun h18 => ?_⟩
          · skip
            have c18 := h18
            (simp only [bsX] at c18)
            have hk : k < q.ns.length := by omega
            have hM := chL_next (p := p) hk
            have hl1 : (chL p q k).length + 1 = (chL p q (k + 1)).length := by rw [hM]; simp
            have hsl := chL_len (p := p) (q := q) k
            repeat (refine Ob.mk ?_ ?_; (focus (first | (exact Eq.refl _) | assumption | omega | (simp only [SrcE.len, Nat.zero_add, List.length_append, List.length_cons, List.length_nil]; omega))))
            refine ⟨k + 1, (by assumption), (by (simp only [SrcE.len, Nat.zero_add, List.length_append, List.length_cons, List.length_nil]; omega)), ?_⟩
            repeat (refine Ob.mk ?_ ?_; (focus (first | (exact hl1) | (exact sq_snoc (L := chL p q k) (s := n10 (q.ns.getD k [])) (fun _ _ _ _ => rfl) rfl rfl hM) | (exact Eq.refl _) | (exact Nat.le_of_ble_eq_true rfl) | (intro hg; ((intro hq; ((simp_all; done))))))))
            trivial
          · skip
            have c18 := h18
            (simp only [bsX] at c18)
            obtain rfl : k = q.ns.length := by omega
            have hsl := chL_len (p := p) (q := q) q.ns.length
            refine ⟨fun h19 => ?_, fun h19 => ?_⟩
            · skip
              have c19 := h19
              (simp only [bsX] at c19)
              have hz := c19
              repeat (refine Ob.mk ?_ ?_; (focus (((rw [chP_nil (eO.trans (List.length_eq_zero_iff.1 (by omega)))]; rfl)))))
              trivial
            · skip
              have c19 := h19
              (simp only [bsX] at c19)
              have hz := c19
              repeat (refine Ob.mk ?_ ?_; (focus (first | (rw [chP_of eO (fun e => by (rw [e] at hz; exact hz rfl))]; first | exact (Nat.add_comm ..) | exact sq_c rfl (fun _ _ _ _ => rfl) rfl) | (exact Eq.refl _) | (simp only [SrcE.len, Nat.zero_add, List.length_append, List.length_cons, List.length_nil]; omega))))
              trivial
        · skip
          have c17 := h17
          (simp only [bsX] at c17)
          have eO : chO p q = chH p q := if_pos (by simpa using h17)
          refine ⟨fun h20 => ?_, fun h20 => ?_⟩
          · skip
            have c20 := h20
            (simp only [bsX] at c20)
            have hz := c20
            repeat (refine Ob.mk ?_ ?_; (focus (((rw [chP_nil (eO.trans (List.length_eq_zero_iff.1 (by omega)))]; rfl)))))
            trivial
          · skip
            have c20 := h20
            (simp only [bsX] at c20)
            have hz := c20
            repeat (refine Ob.mk ?_ ?_; (focus (first | (rw [e8]; rfl) | (rw [chP_of eO (fun e => by (rw [e] at hz; exact hz rfl))]; first | exact (Nat.add_comm ..) | exact sq_c rfl (fun _ _ _ _ => rfl) rfl) | (exact Eq.refl _) | (simp only [SrcE.len, Nat.zero_add, List.length_append, List.length_cons, List.length_nil]; omega))))
            trivial
  · skip
    have c1 := h1
    (simp only [bsX] at c1)
    have e6 := k6_eq (by simpa using h1)
    have l6 : (k6 p q).length ≤ 1 := by rw [e6]; simp
    refine ⟨⟨[(2, .own 1002 0), (3, .own 1003 0), (5, .osl 61 (k6 p q).length)], [(1002, .box [.s p.k, .s p.s, .s p.e, .i p.a, netsE p.ns] 71), (1003, .box [.s q.k, .s q.s, .s q.e, .i q.a, netsE q.ns] 71), (61, .rz (k6 p q).length 5 (stQ (k6 p q)) 53 0)]⟩, ?_, ?_⟩
    · skip
      repeat (refine Ob.mk ?_ ?_; (focus (first | (rw [e6]; first | rfl | exact sq_0) | (exact Eq.refl _) | omega | (intro hg; ((intro hq; ((simp_all; done))))))))
      trivial
    refine ⟨fun h21 => ?_, fun h21 => ?_⟩
    · skip
      have c21 := h21
      (simp only [bsX] at c21)
      have e7 : k6 p q ++ k7 p q = k6 p q ++ [⟨7, q.e, 0, []⟩] := congrArg (k6 p q ++ ·) (k7_ne c21)
      have e7l : (k6 p q).length + 1 = (k6 p q ++ k7 p q).length := by rw [e7]; exact snoc_len _ _
      repeat (refine Ob.mk ?_ ?_; (focus (first | (exact (show (k6 p q).length + 1 ≤ 1000000000 by omega)) | (rw [e6]; rfl) | (exact Eq.refl _))))
      have l7 : (k6 p q ++ k7 p q).length ≤ 2 := by (rw [e7]; ((rw [List.length_append]; show (k6 p q).length + 1 ≤ 2; omega)))
      refine ⟨⟨[(2, .own 1002 0), (3, .own 1003 0), (5, .osl 61 (k6 p q ++ k7 p q).length)], [(1002, .box [.s p.k, .s p.s, .s p.e, .i p.a, netsE p.ns] 71), (1003, .box [.s q.k, .s q.s, .s q.e, .i q.a, netsE q.ns] 71), (61, .rz (k6 p q ++ k7 p q).length 5 (stQ (k6 p q ++ k7 p q)) 53 0)]⟩, ?_, ?_⟩
      · skip
        repeat (refine Ob.mk ?_ ?_; (focus (first | (exact e7l) | (rw [e7]; exact sq_s rfl (fun _ _ _ _ => rfl) rfl rfl) | (exact Eq.refl _) | (exact Nat.le_of_ble_eq_true rfl) | (intro hg; ((intro hq; ((simp_all; done))))))))
        trivial
      refine ⟨fun h22 => ?_, fun h22 => ?_⟩
      · skip
        have c22 := h22
        (simp only [bsX] at c22)
        have e8 : chH p q = (k6 p q ++ k7 p q) ++ [⟨8, [], q.a, []⟩] := congrArg ((k6 p q ++ k7 p q) ++ ·) (k8_ne c22)
        have e8l : (k6 p q ++ k7 p q).length + 1 = (chH p q).length := by rw [e8]; exact snoc_len _ _
        repeat (refine Ob.mk ?_ ?_; (focus (first | (exact (show (k6 p q ++ k7 p q).length + 1 ≤ 1000000000 by omega)) | (rw [e6]; rfl) | (exact Eq.refl _))))
        refine ⟨⟨[(2, .own 1002 0), (3, .own 1003 0), (5, .osl 61 (chH p q).length)], [(1002, .box [.s p.k, .s p.s, .s p.e, .i p.a, netsE p.ns] 71), (1003, .box [.s q.k, .s q.s, .s q.e, .i q.a, netsE q.ns] 71), (61, .rz (chH p q).length 5 (stQ (chH p q)) 53 0)]⟩, ?_, ?_⟩
        · skip
          repeat (refine Ob.mk ?_ ?_; (focus (first | (exact e8l) | (rw [e8]; exact sq_s rfl (fun _ _ _ _ => rfl) rfl rfl) | (exact Eq.refl _) | (exact Nat.le_of_ble_eq_true rfl) | (intro hg; ((intro hq; ((simp_all; done))))))))
          trivial
        refine ⟨_, _, _, _, (cf_nsEqK hp hq), ?_⟩
        repeat (refine Ob.mk ?_ ?_; (focus (first | (exact Eq.refl _) | (intro hg; ((intro hq; ((simp_all; done))))))))
        refine ⟨fun h23 => ?_, fun h23 => ?_⟩
        · skip
          have c23 := h23
          (simp only [bsX] at c23)
          have eL : chL p q 0 = chH p q ++ [⟨9, [], 0, []⟩] := List.append_nil _
          have eLl : (chH p q).length + 1 = (chL p q 0).length := by rw [eL]; exact snoc_len _ _
          have eO : chO p q = chL p q q.ns.length := if_neg c23
          repeat (refine Ob.mk ?_ ?_; (focus (first | (exact (show (chH p q).length + 1 ≤ 1000000000 by omega)) | (rw [e8]; rfl) | (exact Eq.refl _))))
          refine ⟨Nat, fun k => ⟨[(3, .own 1003 0), (5, .osl 61 (chL p q k).length), (52, netsE q.ns), (53, .i (q.ns.length : Int)), (54, .i (k : Int))], [(1003, .box [.s q.k, .s q.s, .s q.e, .i q.a, netsE q.ns] 71), (61, .rz (chL p q k).length 5 (stQ (chL p q k)) 53 0)]⟩, fun k => k ≤ q.ns.length, fun k => q.ns.length - k, 0, Nat.zero_le _, ?_, fun k hx1 => ?_⟩
          · skip
            repeat (refine Ob.mk ?_ ?_; (focus (first | (exact eLl) | (rw [eL]; exact sq_s rfl (fun _ _ _ _ => rfl) rfl rfl) | (exact Eq.refl _) | (exact Nat.le_of_ble_eq_true rfl) | (intro hg; ((intro hq; ((simp_all; done))))))))
            trivial
          refine ⟨fun h24 => ?_, fun h24 => ?_⟩
          · skip
            have c24 := h24
            (simp only [bsX] at c24)
            have hk : k < q.ns.length := by omega
            have hM := chL_next (p := p) hk
            have hl1 : (chL p q k).length + 1 = (chL p q (k + 1)).length := by rw [hM]; simp
            have hsl := chL_len (p := p) (q := q) k
            repeat (refine Ob.mk ?_ ?_; (focus (first | (exact Eq.refl _) | assumption | omega | (simp only [SrcE.len, Nat.zero_add, List.length_append, List.length_cons, List.length_nil]; omega))))
            refine ⟨k + 1, (by assumption), (by (simp only [SrcE.len, Nat.zero_add, List.length_append, List.length_cons, List.length_nil]; omega)), ?_⟩
            repeat (refine Ob.mk ?_ ?_; (focus (first | (exact hl1) | (exact sq_snoc (L := chL p q k) (s := n10 (q.ns.getD k [])) (fun _ _ _ _ => rfl) rfl rfl hM) | (exact Eq.refl _) | (exact Nat.le_of_ble_eq_true rfl) | (intro hg; ((intro hq; ((simp_all; done))))))))
            trivial
          · skip
            have c24 := h24
            (simp only [bsX] at c24)
            obtain rfl : k = q.ns.length := by omega
            have hsl := chL_len (p := p) (q := q) q.ns.length
            refine ⟨fun h25 => ?_, fun h25 => ?_⟩
            · skip
              have c25 := h25
              (simp only [bsX] at c25)
              have hz := c25
              repeat (refine Ob.mk ?_ ?_; (focus (((rw [chP_nil (eO.trans (List.length_eq_zero_iff.1 (by omega)))]; rfl)))))
              trivial
            · skip
              have c25 := h25
              (simp only [bsX] at c25)
              have hz := c25
              repeat (refine Ob.mk ?_ ?_; (focus (first | (rw [chP_of eO (fun e => by (rw [e] at hz; exact hz rfl))]; first | exact (Nat.add_comm ..) | exact sq_c rfl (fun _ _ _ _ => rfl) rfl) | (exact Eq.refl _) | (simp only [SrcE.len, Nat.zero_add, List.length_append, List.length_cons, List.length_nil]; omega))))
              trivial
        · skip
          have c23 := h23
          (simp only [bsX] at c23)
          have eO : chO p q = chH p q := if_pos (by simpa using h23)
          refine ⟨fun h26 => ?_, fun h26 => ?_⟩
          · skip
            have c26 := h26
            (simp only [bsX] at c26)
            have hz := c26
            repeat (refine Ob.mk ?_ ?_; (focus (((rw [chP_nil (eO.trans (List.length_eq_zero_iff.1 (by omega)))]; rfl)))))
            trivial
          · skip
            have c26 := h26
            (simp only [bsX] at c26)
            have hz := c26
            repeat (refine Ob.mk ?_ ?_; (focus (first | (rw [e8]; rfl) | (rw [chP_of eO (fun e => by (rw [e] at hz; exact hz rfl))]; first | exact (Nat.add_comm ..) | exact sq_c rfl (fun _ _ _ _ => rfl) rfl) | (exact Eq.refl _) | (simp only [SrcE.len, Nat.zero_add, List.length_append, List.length_cons, List.length_nil]; omega))))
            trivial
      · skip
        have c22 := h22
        (simp only [bsX] at c22)
        have e8 : chH p q = k6 p q ++ k7 p q := (congrArg ((k6 p q ++ k7 p q) ++ ·) (k8_eq (by simpa using h22))).trans (List.append_nil _)
        refine ⟨⟨[(2, .own 1002 0), (3, .own 1003 0), (5, .osl 61 (chH p q).length)], [(1002, .box [.s p.k, .s p.s, .s p.e, .i p.a, netsE p.ns] 71), (1003, .box [.s q.k, .s q.s, .s q.e, .i q.a, netsE q.ns] 71), (61, .rz (chH p q).length 5 (stQ (chH p q)) 53 0)]⟩, ?_, ?_⟩
        · skip
          repeat (refine Ob.mk ?_ ?_; (focus (first | (rw [e8]; exact fun _ _ _ _ => rfl) | (exact Eq.refl _) | omega | (intro hg; ((intro hq; ((simp_all; done))))) | (simp_all; done))))
          trivial
        refine ⟨_, _, _, _, (cf_nsEqK hp hq), ?_⟩
        repeat (refine Ob.mk ?_ ?_; (focus (first | (exact Eq.refl _) | (intro hg; ((intro hq; ((simp_all; done))))))))
        refine ⟨fun h27 => ?_, fun h27 => ?_⟩
        · skip
          have c27 := h27
          (simp only [bsX] at c27)
          have eL : chL p q 0 = chH p q ++ [⟨9, [], 0, []⟩] := List.append_nil _
          have eLl : (chH p q).length + 1 = (chL p q 0).length := by rw [eL]; exact snoc_len _ _
          have eO : chO p q = chL p q q.ns.length := if_neg c27
          repeat (refine Ob.mk ?_ ?_; (focus (first | (exact (show (chH p q).length + 1 ≤ 1000000000 by omega)) | (rw [e8]; rfl) | (exact Eq.refl _))))
          refine ⟨Nat, fun k => ⟨[(3, .own 1003 0), (5, .osl 61 (chL p q k).length), (52, netsE q.ns), (53, .i (q.ns.length : Int)), (54, .i (k : Int))], [(1003, .box [.s q.k, .s q.s, .s q.e, .i q.a, netsE q.ns] 71), (61, .rz (chL p q k).length 5 (stQ (chL p q k)) 53 0)]⟩, fun k => k ≤ q.ns.length, fun k => q.ns.length - k, 0, Nat.zero_le _, ?_, fun k hx1 => ?_⟩
          · skip
            repeat (refine Ob.mk ?_ ?_; (focus (first | (exact eLl) | (rw [eL]; exact sq_s rfl (fun _ _ _ _ => rfl) rfl rfl) | (exact Eq.refl _) | (exact Nat.le_of_ble_eq_true rfl) | (intro hg; ((intro hq; ((simp_all; done))))))))
            trivial
          refine ⟨fun h28 => ?_, fun h28 => ?_⟩
          · skip
            have c28 := h28
            (simp only [bsX] at c28)
            have hk : k < q.ns.length := by omega
            have hM := chL_next (p := p) hk
            have hl1 : (chL p q k).length + 1 = (chL p q (k + 1)).length := by rw [hM]; simp
            have hsl := chL_len (p := p) (q := q) k
            repeat (refine Ob.mk ?_ ?_; (focus (first | (exact Eq.refl _) | assumption | omega | (simp only [SrcE.len, Nat.zero_add, List.length_append, List.length_cons, List.length_nil]; omega))))
            refine ⟨k + 1, (by assumption), (by (simp only [SrcE.len, Nat.zero_add, List.length_append, List.length_cons, List.length_nil]; omega)), ?_⟩
            repeat (refine Ob.mk ?_ ?_; (focus (first | (exact hl1) | (exact sq_snoc (L := chL p q k) (s := n10 (q.ns.getD k [])) (fun _ _ _ _ => rfl) rfl rfl hM) | (exact Eq.refl _) | (exact Nat.le_of_ble_eq_true rfl) | (intro hg; ((intro hq; ((simp_all; done))))))))
            trivial
          · skip
            have c28 := h28
            (simp only [bsX] at c28)
            obtain rfl : k = q.ns.length := by omega
            have hsl := chL_len (p := p) (q := q) q.ns.length
            refine ⟨fun h29 => ?_, fun h29 => ?_⟩
            · skip
              have c29 := h29
              (simp only [bsX] at c29)
              have hz := c29
              repeat (refine Ob.mk ?_ ?_; (focus (((rw [chP_nil (eO.trans (List.length_eq_zero_iff.1 (by omega)))]; rfl)))))
              trivial
            · skip
              have c29 := h29
              (simp only [bsX] at c29)
              have hz := c29
              repeat (refine Ob.mk ?_ ?_; (focus (first | (rw [chP_of eO (fun e => by (rw [e] at hz; exact hz rfl))]; first | exact (Nat.add_comm ..) | exact sq_c rfl (fun _ _ _ _ => rfl) rfl) | (exact Eq.refl _) | (simp only [SrcE.len, Nat.zero_add, List.length_append, List.length_cons, List.length_nil]; omega))))
              trivial
        · skip
          have c27 := h27
          (simp only [bsX] at c27)
          have eO : chO p q = chH p q := if_pos (by simpa using h27)
          refine ⟨fun h30 => ?_, fun h30 => ?_⟩
          · skip
            have c30 := h30
            (simp only [bsX] at c30)
            have hz := c30
            repeat (refine Ob.mk ?_ ?_; (focus (((rw [chP_nil (eO.trans (List.length_eq_zero_iff.1 (by omega)))]; rfl)))))
            trivial
          · skip
            have c30 := h30
            (simp only [bsX] at c30)
            have hz := c30
            repeat (refine Ob.mk ?_ ?_; (focus (first | (rw [e8]; rfl) | (rw [chP_of eO (fun e => by (rw [e] at hz; exact hz rfl))]; first | exact (Nat.add_comm ..) | exact sq_c rfl (fun _ _ _ _ => rfl) rfl) | (exact Eq.refl _) | (simp only [SrcE.len, Nat.zero_add, List.length_append, List.length_cons, List.length_nil]; omega))))
            trivial
    · skip
      have c21 := h21
      (simp only [bsX] at c21)
      have e7 : k6 p q ++ k7 p q = k6 p q := (congrArg (k6 p q ++ ·) (k7_eq (by simpa using h21))).trans (List.append_nil _)
      have l7 : (k6 p q ++ k7 p q).length ≤ 2 := by (rw [e7]; omega)
      refine ⟨⟨[(2, .own 1002 0), (3, .own 1003 0), (5, .osl 61 (k6 p q ++ k7 p q).length)], [(1002, .box [.s p.k, .s p.s, .s p.e, .i p.a, netsE p.ns] 71), (1003, .box [.s q.k, .s q.s, .s q.e, .i q.a, netsE q.ns] 71), (61, .rz (k6 p q ++ k7 p q).length 5 (stQ (k6 p q ++ k7 p q)) 53 0)]⟩, ?_, ?_⟩
      · skip
        repeat (refine Ob.mk ?_ ?_; (focus (first | (rw [e6]; exact sq_0) | (exact Eq.refl _) | omega | (intro hg; ((intro hq; ((simp_all; done))))) | (simp_all; done))))
        trivial
      refine ⟨fun h31 => ?_, fun h31 => ?_⟩
      · skip
        have c31 := h31
        (simp only [bsX] at c31)
        have e8 : chH p q = (k6 p q ++ k7 p q) ++ [⟨8, [], q.a, []⟩] := congrArg ((k6 p q ++ k7 p q) ++ ·) (k8_ne c31)
        have e8l : (k6 p q ++ k7 p q).length + 1 = (chH p q).length := by rw [e8]; exact snoc_len _ _
        repeat (refine Ob.mk ?_ ?_; (focus (first | (exact (show (k6 p q ++ k7 p q).length + 1 ≤ 1000000000 by omega)) | (rw [e6]; rfl) | (exact Eq.refl _))))
        refine ⟨⟨[(2, .own 1002 0), (3, .own 1003 0), (5, .osl 61 (chH p q).length)], [(1002, .box [.s p.k, .s p.s, .s p.e, .i p.a, netsE p.ns] 71), (1003, .box [.s q.k, .s q.s, .s q.e, .i q.a, netsE q.ns] 71), (61, .rz (chH p q).length 5 (stQ (chH p q)) 53 0)]⟩, ?_, ?_⟩
        · skip
          repeat (refine Ob.mk ?_ ?_; (focus (first | (exact e8l) | (rw [e8]; exact sq_s rfl (fun _ _ _ _ => rfl) rfl rfl) | (exact Eq.refl _) | (exact Nat.le_of_ble_eq_true rfl) | (intro hg; ((intro hq; ((simp_all; done))))))))
          trivial
        refine ⟨_, _, _, _, (cf_nsEqK hp hq), ?_⟩
        repeat (refine Ob.mk ?_ ?_; (focus (first | (exact Eq.refl _) | (intro hg; ((intro hq; ((simp_all; done))))))))
        refine ⟨fun h32 => ?_, fun h32 => ?_⟩
        · skip
          have c32 := h32
          (simp only [bsX] at c32)
          have eL : chL p q 0 = chH p q ++ [⟨9, [], 0, []⟩] := List.append_nil _
          have eLl : (chH p q).length + 1 = (chL p q 0).length := by rw [eL]; exact snoc_len _ _
          have eO : chO p q = chL p q q.ns.length := if_neg c32
          repeat (refine Ob.mk ?_ ?_; (focus (first | (exact (show (chH p q).length + 1 ≤ 1000000000 by omega)) | (rw [e8]; rfl) | (exact Eq.refl _))))
          refine ⟨Nat, fun k => ⟨[(3, .own 1003 0), (5, .osl 61 (chL p q k).length), (52, netsE q.ns), (53, .i (q.ns.length : Int)), (54, .i (k : Int))], [(1003, .box [.s q.k, .s q.s, .s q.e, .i q.a, netsE q.ns] 71), (61, .rz (chL p q k).length 5 (stQ (chL p q k)) 53 0)]⟩, fun k => k ≤ q.ns.length, fun k => q.ns.length - k, 0, Nat.zero_le _, ?_, fun k hx1 => ?_⟩
          · skip
            repeat (refine Ob.mk ?_ ?_; (focus (first | (exact eLl) | (rw [eL]; exact sq_s rfl (fun _ _ _ _ => rfl) rfl rfl) | (exact Eq.refl _) | (exact Nat.le_of_ble_eq_true rfl) | (intro hg; ((intro hq; ((simp_all; done))))))))
            trivial
          refine ⟨fun h33 => ?_, fun h33 => ?_⟩
          · skip
            have c33 := h33
            (simp only [bsX] at c33)
            have hk : k < q.ns.length := by omega
            have hM := chL_next (p := p) hk
            have hl1 : (chL p q k).length + 1 = (chL p q (k + 1)).length := by rw [hM]; simp
            have hsl := chL_len (p := p) (q := q) k
            repeat (refine Ob.mk ?_ ?_; (focus (first | (exact Eq.refl _) | assumption | omega | (simp only [SrcE.len, Nat.zero_add, List.length_append, List.length_cons, List.length_nil]; omega))))
            refine ⟨k + 1, (by assumption), (by (simp only [SrcE.len, Nat.zero_add, List.length_append, List.length_cons, List.length_nil]; omega)), ?_⟩
            repeat (refine Ob.mk ?_ ?_; (focus (first | (exact hl1) | (exact sq_snoc (L := chL p q k) (s := n10 (q.ns.getD k [])) (fun _ _ _ _ => rfl) rfl rfl hM) | (exact Eq.refl _) | (exact Nat.le_of_ble_eq_true rfl) | (intro hg; ((intro hq; ((simp_all; done))))))))
            trivial
          · skip
            have c33 := h33
            (simp only [bsX] at c33)
            obtain rfl : k = q.ns.length := by omega
            have hsl := chL_len (p := p) (q := q) q.ns.length
            refine ⟨fun h34 => ?_, fun h34 => ?_⟩
            · skip
              have c34 := h34
              (simp only [bsX] at c34)
              have hz := c34
              repeat (refine Ob.mk ?_ ?_; (focus (((rw [chP_nil (eO.trans (List.length_eq_zero_iff.1 (by omega)))]; rfl)))))
              trivial
            · skip
              have c34 := h34
              (simp only [bsX] at c34)
              have hz := c34
              repeat (refine Ob.mk ?_ ?_; (focus (first | (rw [chP_of eO (fun e => by (rw [e] at hz; exact hz rfl))]; first | exact (Nat.add_comm ..) | exact sq_c rfl (fun _ _ _ _ => rfl) rfl) | (exact Eq.refl _) | (simp only [SrcE.len, Nat.zero_add, List.length_append, List.length_cons, List.length_nil]; omega))))
              trivial
        · skip
          have c32 := h32
          (simp only [bsX] at c32)
          have eO : chO p q = chH p q := if_pos (by simpa using h32)
          refine ⟨fun h35 => ?_, fun h35 => ?_⟩
          · skip
            have c35 := h35
            (simp only [bsX] at c35)
            have hz := c35
            repeat (refine Ob.mk ?_ ?_; (focus (((rw [chP_nil (eO.trans (List.length_eq_zero_iff.1 (by omega)))]; rfl)))))
            trivial
          · skip
            have c35 := h35
            (simp only [bsX] at c35)
            have hz := c35
            repeat (refine Ob.mk ?_ ?_; (focus (first | (rw [e8]; rfl) | (rw [chP_of eO (fun e => by (rw [e] at hz; exact hz rfl))]; first | exact (Nat.add_comm ..) | exact sq_c rfl (fun _ _ _ _ => rfl) rfl) | (exact Eq.refl _) | (simp only [SrcE.len, Nat.zero_add, List.length_append, List.length_cons, List.length_nil]; omega))))
            trivial
      · skip
        have c31 := h31
        (simp only [bsX] at c31)
        have e8 : chH p q = k6 p q ++ k7 p q := (congrArg ((k6 p q ++ k7 p q) ++ ·) (k8_eq (by simpa using h31))).trans (List.append_nil _)
        refine ⟨⟨[(2, .own 1002 0), (3, .own 1003 0), (5, .osl 61 (chH p q).length)], [(1002, .box [.s p.k, .s p.s, .s p.e, .i p.a, netsE p.ns] 71), (1003, .box [.s q.k, .s q.s, .s q.e, .i q.a, netsE q.ns] 71), (61, .rz (chH p q).length 5 (stQ (chH p q)) 53 0)]⟩, ?_, ?_⟩
        · skip
          repeat (refine Ob.mk ?_ ?_; (focus (first | (rw [e8]; exact fun _ _ _ _ => rfl) | (exact Eq.refl _) | omega | (intro hg; ((intro hq; ((simp_all; done))))) | (simp_all; done))))
          trivial
        refine ⟨_, _, _, _, (cf_nsEqK hp hq), ?_⟩
        repeat (refine Ob.mk ?_ ?_; (focus (first | (exact Eq.refl _) | (intro hg; ((intro hq; ((simp_all; done))))))))
        refine ⟨fun h36 => ?_, fun h36 => ?_⟩
        · skip
          have c36 := h36
          (simp only [bsX] at c36)
          have eL : chL p q 0 = chH p q ++ [⟨9, [], 0, []⟩] := List.append_nil _
          have eLl : (chH p q).length + 1 = (chL p q 0).length := by rw [eL]; exact snoc_len _ _
          have eO : chO p q = chL p q q.ns.length := if_neg c36
          repeat (refine Ob.mk ?_ ?_; (focus (first | (exact (show (chH p q).length + 1 ≤ 1000000000 by omega)) | (rw [e8]; rfl) | (exact Eq.refl _))))
          refine ⟨Nat, fun k => ⟨[(3, .own 1003 0), (5, .osl 61 (chL p q k).length), (52, netsE q.ns), (53, .i (q.ns.length : Int)), (54, .i (k : Int))], [(1003, .box [.s q.k, .s q.s, .s q.e, .i q.a, netsE q.ns] 71), (61, .rz (chL p q k).length 5 (stQ (chL p q k)) 53 0)]⟩, fun k => k ≤ q.ns.length, fun k => q.ns.length - k, 0, Nat.zero_le _, ?_, fun k hx1 => ?_⟩
          · skip
            repeat (refine Ob.mk ?_ ?_; (focus (first | (exact eLl) | (rw [eL]; exact sq_s rfl (fun _ _ _ _ => rfl) rfl rfl) | (exact Eq.refl _) | (exact Nat.le_of_ble_eq_true rfl) | (intro hg; ((intro hq; ((simp_all; done))))))))
            trivial
          refine ⟨fun h37 => ?_, fun h37 => ?_⟩
          · skip
            have c37 := h37
            (simp only [bsX] at c37)
            have hk : k < q.ns.length := by omega
            have hM := chL_next (p := p) hk
            have hl1 : (chL p q k).length + 1 = (chL p q (k + 1)).length := by rw [hM]; simp
            have hsl := chL_len (p := p) (q := q) k
            repeat (refine Ob.mk ?_ ?_; (focus (first | (exact Eq.refl _) | assumption | omega | (simp only [SrcE.len, Nat.zero_add, List.length_append, List.length_cons, List.length_nil]; omega))))
            refine ⟨k + 1, (by assumption), (by (simp only [SrcE.len, Nat.zero_add, List.length_append, List.length_cons, List.length_nil]; omega)), ?_⟩
            repeat (refine Ob.mk ?_ ?_; (focus (first | (exact hl1) | (exact sq_snoc (L := chL p q k) (s := n10 (q.ns.getD k [])) (fun _ _ _ _ => rfl) rfl rfl hM) | (exact Eq.refl _) | (exact Nat.le_of_ble_eq_true rfl) | (intro hg; ((intro hq; ((simp_all; done))))))))
            trivial
          · skip
            have c37 := h37
            (simp only [bsX] at c37)
            obtain rfl : k = q.ns.length := by omega
            have hsl := chL_len (p := p) (q := q) q.ns.length
            refine ⟨fun h38 => ?_, fun h38 => ?_⟩
            · skip
              have c38 := h38
              (simp only [bsX] at c38)
              have hz := c38
              repeat (refine Ob.mk ?_ ?_; (focus (((rw [chP_nil (eO.trans (List.length_eq_zero_iff.1 (by omega)))]; rfl)))))
              trivial
            · skip
              have c38 := h38
              (simp only [bsX] at c38)
              have hz := c38
              repeat (refine Ob.mk ?_ ?_; (focus (first | (rw [chP_of eO (fun e => by (rw [e] at hz; exact hz rfl))]; first | exact (Nat.add_comm ..) | exact sq_c rfl (fun _ _ _ _ => rfl) rfl) | (exact Eq.refl _) | (simp only [SrcE.len, Nat.zero_add, List.length_append, List.length_cons, List.length_nil]; omega))))
              trivial
        · skip
          have c36 := h36
          (simp only [bsX] at c36)
          have eO : chO p q = chH p q := if_pos (by simpa using h36)
          refine ⟨fun h39 => ?_, fun h39 => ?_⟩
          · skip
            have c39 := h39
            (simp only [bsX] at c39)
            have hz := c39
            repeat (refine Ob.mk ?_ ?_; (focus (((rw [chP_nil (eO.trans (List.length_eq_zero_iff.1 (by omega)))]; rfl)))))
            trivial
          · skip
            have c39 := h39
            (simp only [bsX] at c39)
            have hz := c39
            repeat (refine Ob.mk ?_ ?_; (focus (first | (rw [e8]; rfl) | (rw [chP_of eO (fun e => by (rw [e] at hz; exact hz rfl))]; first | exact (Nat.add_comm ..) | exact sq_c rfl (fun _ _ _ _ => rfl) rfl) | (exact Eq.refl _) | (simp only [SrcE.len, Nat.zero_add, List.length_append, List.length_cons, List.length_nil]; omega))))
            trivial
end Go.Proofs.YtfpglljpngiipaaDoor
