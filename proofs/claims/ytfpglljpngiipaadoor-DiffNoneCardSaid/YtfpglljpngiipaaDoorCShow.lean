/- Package show: contracts, for what may be. -/
import Derived.Test.YtfpglljpngiipaaDoorCConfC
import Derived.Test.YtfpglljpngiipaaDoorCSets
namespace Go.Proofs.YtfpglljpngiipaaDoor
open Go.RowKit Go.Lib
set_option linter.unusedVariables false
set_option linter.unusedSimpArgs false

/-! ### What a peer is shown as -/
def s6 (p : PeerS) : List SetS := if p.s = [] then [] else [⟨6, p.s, 0, []⟩]
def s7 (p : PeerS) : List SetS := if p.e = [] then [] else [⟨7, p.e, 0, []⟩]
def s8 (p : PeerS) : List SetS := if 0 < p.a then [⟨8, [], p.a, []⟩] else []
def n10 (n : List Bool) : SetS := ⟨10, [], 0, n⟩
def hdP (p : PeerS) : List SetS := ⟨4, p.k, 0, []⟩ :: (s6 p ++ s7 p ++ s8 p)
def shP (p : PeerS) (k : Nat) : List SetS := hdP p ++ (p.ns.take k).map n10
def showP (p : PeerS) : List SetS := shP p p.ns.length
theorem s6_ne {p : PeerS} (h : ¬ p.s = []) : s6 p = [⟨6, p.s, 0, []⟩] := if_neg h
theorem s6_eq {p : PeerS} (h : p.s = []) : s6 p = [] := if_pos h
theorem s7_ne {p : PeerS} (h : ¬ p.e = []) : s7 p = [⟨7, p.e, 0, []⟩] := if_neg h
theorem s7_eq {p : PeerS} (h : p.e = []) : s7 p = [] := if_pos h
theorem s8_gt {p : PeerS} (h : 0 < p.a) : s8 p = [⟨8, [], p.a, []⟩] := if_pos h
theorem s8_le {p : PeerS} (h : ¬ 0 < p.a) : s8 p = [] := if_neg h
theorem shP_next {p : PeerS} {k : Nat} (hk : k < p.ns.length) : shP p (k + 1) = shP p k ++ [n10 (p.ns.getD k [])] := by
  unfold shP
  rw [take_ns hk, List.map_append, List.append_assoc]; rfl
theorem hdP_len (p : PeerS) : (hdP p).length ≤ 4 := by
  unfold hdP s6 s7 s8
  split <;> split <;> split <;> simp
theorem shP_len {p : PeerS} (k : Nat) : (shP p k).length ≤ 4 + k := by
  unfold shP
  rw [List.length_append, List.length_map, List.length_take]
  have := hdP_len p
  omega
set_option maxRecDepth 100000 in
set_option maxHeartbeats 4000000 in
theorem cf_ofPeerO {p : PeerS} (hl : p.ns.length ≤ 1000) : Cf Tryd.prog 61 [] [peerE p] [] (.lz (showP p).length 5 (stQ (showP p))) := by
  refine Cf.introR tabT {} D0 (by kernel_rfl) tab_ok Tryd.func61 Tryd.ntmps61 rfl rfl (D0_ok) (by kernel_rfl) ?_
  refine ⟨fun h1 => ?_, fun h1 => ?_⟩
  · skip
    have c1 := h1
    (simp only [bsX] at c1)
    have e6 := s6_ne c1
    repeat (refine Ob.mk ?_ ?_; focus (first | (exact Eq.refl _) | (exact Nat.le_of_ble_eq_true rfl)))
    refine ⟨fun h2 => ?_, fun h2 => ?_⟩
    · skip
      have c2 := h2
      (simp only [bsX] at c2)
      have e7 := s7_ne c2
      repeat (refine Ob.mk ?_ ?_; focus (first | (exact Eq.refl _) | (exact Nat.le_of_ble_eq_true rfl)))
      refine ⟨fun h3 => ?_, fun h3 => ?_⟩
      · skip
        have c3 := h3
        (simp only [bsX] at c3)
        have e8 := s8_gt c3
        repeat (refine Ob.mk ?_ ?_; focus (first | (exact Eq.refl _) | (exact Nat.le_of_ble_eq_true rfl)))
        have eh : shP p 0 = ⟨4, p.k, 0, []⟩ :: (s6 p ++ s7 p ++ s8 p) := List.append_nil _
        rw [e6, e7, e8] at eh
        have ehl := congrArg List.length eh
        refine ⟨Nat, fun k => ⟨[(3, .osl 61 (shP p k).length), (38, netsE p.ns), (39, .i (p.ns.length : Int)), (40, .i (k : Int))], [(61, .rz (shP p k).length 5 (stQ (shP p k)) 53 0)]⟩, fun k => k ≤ p.ns.length, fun k => p.ns.length - k, 0, Nat.zero_le _, ?_, fun k hx1 => ?_⟩
        · skip
          repeat (refine Ob.mk ?_ ?_; (focus (first | (exact ehl.symm) | (exact fun _ _ _ _ => rfl) | (rw [eh]; rfl) | (rw [eh]; exact rows_n (N := 4) ⟨⟨rfl, rfl, rfl, rfl, rfl⟩, ⟨rfl, rfl, rfl, rfl, rfl⟩, ⟨rfl, rfl, rfl, rfl, rfl⟩, ⟨rfl, rfl, rfl, rfl, rfl⟩, trivial⟩) | (exact Eq.refl _) | (exact Nat.le_of_ble_eq_true rfl))))
          trivial
        refine ⟨fun h4 => ?_, fun h4 => ?_⟩
        · skip
          have c4 := h4
          (simp only [bsX] at c4)
          have hk : k < p.ns.length := by omega
          have hM := shP_next hk
          have hl1 : (shP p k).length + 1 = (shP p (k + 1)).length := by rw [hM]; simp
          have hsl := shP_len (p := p) k
          repeat (refine Ob.mk ?_ ?_; (focus (first | (exact Eq.refl _) | assumption | omega | (simp only [SrcE.len, Nat.zero_add, List.length_append, List.length_cons, List.length_nil]; omega))))
          refine ⟨k + 1, (by assumption), (by (simp only [SrcE.len, Nat.zero_add, List.length_append, List.length_cons, List.length_nil]; omega)), ?_⟩
          repeat (refine Ob.mk ?_ ?_; focus (first | (exact hl1) | (exact sq_snoc (L := shP p k) (s := n10 (p.ns.getD k [])) (fun _ _ _ _ => rfl) rfl rfl hM) | (exact fun _ _ _ _ => rfl) | (exact Eq.refl _) | (exact Nat.le_of_ble_eq_true rfl)))
          trivial
        · skip
          have c4 := h4
          (simp only [bsX] at c4)
          obtain rfl : k = p.ns.length := by omega
          repeat (refine Ob.mk ?_ ?_; focus (first | (exact fun _ _ _ _ => rfl) | (exact Eq.refl _)))
          trivial
      · skip
        have c3 := h3
        (simp only [bsX] at c3)
        have e8 := s8_le c3
        have eh : shP p 0 = ⟨4, p.k, 0, []⟩ :: (s6 p ++ s7 p ++ s8 p) := List.append_nil _
        rw [e6, e7, e8] at eh
        have ehl := congrArg List.length eh
        refine ⟨Nat, fun k => ⟨[(3, .osl 61 (shP p k).length), (38, netsE p.ns), (39, .i (p.ns.length : Int)), (40, .i (k : Int))], [(61, .rz (shP p k).length 5 (stQ (shP p k)) 53 0)]⟩, fun k => k ≤ p.ns.length, fun k => p.ns.length - k, 0, Nat.zero_le _, ?_, fun k hx1 => ?_⟩
        · skip
          repeat (refine Ob.mk ?_ ?_; (focus (first | (exact ehl.symm) | (exact fun _ _ _ _ => rfl) | (rw [eh]; rfl) | (rw [eh]; exact rows_n (N := 3) ⟨⟨rfl, rfl, rfl, rfl, rfl⟩, ⟨rfl, rfl, rfl, rfl, rfl⟩, ⟨rfl, rfl, rfl, rfl, rfl⟩, trivial⟩) | (exact Eq.refl _) | (exact Nat.le_of_ble_eq_true rfl))))
          trivial
        refine ⟨fun h5 => ?_, fun h5 => ?_⟩
        · skip
          have c5 := h5
          (simp only [bsX] at c5)
          have hk : k < p.ns.length := by omega
          have hM := shP_next hk
          have hl1 : (shP p k).length + 1 = (shP p (k + 1)).length := by rw [hM]; simp
          have hsl := shP_len (p := p) k
          repeat (refine Ob.mk ?_ ?_; (focus (first | (exact Eq.refl _) | assumption | omega | (simp only [SrcE.len, Nat.zero_add, List.length_append, List.length_cons, List.length_nil]; omega))))
          refine ⟨k + 1, (by assumption), (by (simp only [SrcE.len, Nat.zero_add, List.length_append, List.length_cons, List.length_nil]; omega)), ?_⟩
          repeat (refine Ob.mk ?_ ?_; focus (first | (exact hl1) | (exact sq_snoc (L := shP p k) (s := n10 (p.ns.getD k [])) (fun _ _ _ _ => rfl) rfl rfl hM) | (exact fun _ _ _ _ => rfl) | (exact Eq.refl _) | (exact Nat.le_of_ble_eq_true rfl)))
          trivial
        · skip
          have c5 := h5
          (simp only [bsX] at c5)
          obtain rfl : k = p.ns.length := by omega
          repeat (refine Ob.mk ?_ ?_; focus (first | (exact fun _ _ _ _ => rfl) | (exact Eq.refl _)))
          trivial
    · skip
      have c2 := h2
      (simp only [bsX] at c2)
      have e7 := s7_eq (by simpa using h2)
      refine ⟨fun h6 => ?_, fun h6 => ?_⟩
      · skip
        have c6 := h6
        (simp only [bsX] at c6)
        have e8 := s8_gt c6
        repeat (refine Ob.mk ?_ ?_; focus (first | (exact Eq.refl _) | (exact Nat.le_of_ble_eq_true rfl)))
        have eh : shP p 0 = ⟨4, p.k, 0, []⟩ :: (s6 p ++ s7 p ++ s8 p) := List.append_nil _
        rw [e6, e7, e8] at eh
        have ehl := congrArg List.length eh
        refine ⟨Nat, fun k => ⟨[(3, .osl 61 (shP p k).length), (38, netsE p.ns), (39, .i (p.ns.length : Int)), (40, .i (k : Int))], [(61, .rz (shP p k).length 5 (stQ (shP p k)) 53 0)]⟩, fun k => k ≤ p.ns.length, fun k => p.ns.length - k, 0, Nat.zero_le _, ?_, fun k hx1 => ?_⟩
        · skip
          repeat (refine Ob.mk ?_ ?_; (focus (first | (exact ehl.symm) | (exact fun _ _ _ _ => rfl) | (rw [eh]; rfl) | (rw [eh]; exact rows_n (N := 3) ⟨⟨rfl, rfl, rfl, rfl, rfl⟩, ⟨rfl, rfl, rfl, rfl, rfl⟩, ⟨rfl, rfl, rfl, rfl, rfl⟩, trivial⟩) | (exact Eq.refl _) | (exact Nat.le_of_ble_eq_true rfl))))
          trivial
        refine ⟨fun h7 => ?_, fun h7 => ?_⟩
        · skip
          have c7 := h7
          (simp only [bsX] at c7)
          have hk : k < p.ns.length := by omega
          have hM := shP_next hk
          have hl1 : (shP p k).length + 1 = (shP p (k + 1)).length := by rw [hM]; simp
          have hsl := shP_len (p := p) k
          repeat (refine Ob.mk ?_ ?_; (focus (first | (exact Eq.refl _) | assumption | omega | (simp only [SrcE.len, Nat.zero_add, List.length_append, List.length_cons, List.length_nil]; omega))))
          refine ⟨k + 1, (by assumption), (by (simp only [SrcE.len, Nat.zero_add, List.length_append, List.length_cons, List.length_nil]; omega)), ?_⟩
          repeat (refine Ob.mk ?_ ?_; focus (first | (exact hl1) | (exact sq_snoc (L := shP p k) (s := n10 (p.ns.getD k [])) (fun _ _ _ _ => rfl) rfl rfl hM) | (exact fun _ _ _ _ => rfl) | (exact Eq.refl _) | (exact Nat.le_of_ble_eq_true rfl)))
          trivial
        · skip
          have c7 := h7
          (simp only [bsX] at c7)
          obtain rfl : k = p.ns.length := by omega
          repeat (refine Ob.mk ?_ ?_; focus (first | (exact fun _ _ _ _ => rfl) | (exact Eq.refl _)))
          trivial
      · skip
        have c6 := h6
        (simp only [bsX] at c6)
        have e8 := s8_le c6
        have eh : shP p 0 = ⟨4, p.k, 0, []⟩ :: (s6 p ++ s7 p ++ s8 p) := List.append_nil _
        rw [e6, e7, e8] at eh
        have ehl := congrArg List.length eh
        refine ⟨Nat, fun k => ⟨[(3, .osl 61 (shP p k).length), (38, netsE p.ns), (39, .i (p.ns.length : Int)), (40, .i (k : Int))], [(61, .rz (shP p k).length 5 (stQ (shP p k)) 53 0)]⟩, fun k => k ≤ p.ns.length, fun k => p.ns.length - k, 0, Nat.zero_le _, ?_, fun k hx1 => ?_⟩
        · skip
          repeat (refine Ob.mk ?_ ?_; (focus (first | (exact ehl.symm) | (exact fun _ _ _ _ => rfl) | (rw [eh]; rfl) | (rw [eh]; exact rows_n (N := 2) ⟨⟨rfl, rfl, rfl, rfl, rfl⟩, ⟨rfl, rfl, rfl, rfl, rfl⟩, trivial⟩) | (exact Eq.refl _) | (exact Nat.le_of_ble_eq_true rfl))))
          trivial
        refine ⟨fun h8 => ?_, fun h8 => ?_⟩
        · skip
          have c8 := h8
          (simp only [bsX] at c8)
          have hk : k < p.ns.length := by omega
          have hM := shP_next hk
          have hl1 : (shP p k).length + 1 = (shP p (k + 1)).length := by rw [hM]; simp
          have hsl := shP_len (p := p) k
          repeat (refine Ob.mk ?_ ?_; (focus (first | (exact Eq.refl _) | assumption | omega | (simp only [SrcE.len, Nat.zero_add, List.length_append, List.length_cons, List.length_nil]; omega))))
          refine ⟨k + 1, (by assumption), (by (simp only [SrcE.len, Nat.zero_add, List.length_append, List.length_cons, List.length_nil]; omega)), ?_⟩
          repeat (refine Ob.mk ?_ ?_; focus (first | (exact hl1) | (exact sq_snoc (L := shP p k) (s := n10 (p.ns.getD k [])) (fun _ _ _ _ => rfl) rfl rfl hM) | (exact fun _ _ _ _ => rfl) | (exact Eq.refl _) | (exact Nat.le_of_ble_eq_true rfl)))
          trivial
        · skip
          have c8 := h8
          (simp only [bsX] at c8)
          obtain rfl : k = p.ns.length := by omega
          repeat (refine Ob.mk ?_ ?_; focus (first | (exact fun _ _ _ _ => rfl) | (exact Eq.refl _)))
          trivial
  · skip
    have c1 := h1
    (simp only [bsX] at c1)
    have e6 := s6_eq (by simpa using h1)
    refine ⟨fun h9 => ?_, fun h9 => ?_⟩
    · skip
      have c9 := h9
      (simp only [bsX] at c9)
      have e7 := s7_ne c9
      repeat (refine Ob.mk ?_ ?_; focus (first | (exact Eq.refl _) | (exact Nat.le_of_ble_eq_true rfl)))
      refine ⟨fun h10 => ?_, fun h10 => ?_⟩
      · skip
        have c10 := h10
        (simp only [bsX] at c10)
        have e8 := s8_gt c10
        repeat (refine Ob.mk ?_ ?_; focus (first | (exact Eq.refl _) | (exact Nat.le_of_ble_eq_true rfl)))
        have eh : shP p 0 = ⟨4, p.k, 0, []⟩ :: (s6 p ++ s7 p ++ s8 p) := List.append_nil _
        rw [e6, e7, e8] at eh
        have ehl := congrArg List.length eh
        refine ⟨Nat, fun k => ⟨[(3, .osl 61 (shP p k).length), (38, netsE p.ns), (39, .i (p.ns.length : Int)), (40, .i (k : Int))], [(61, .rz (shP p k).length 5 (stQ (shP p k)) 53 0)]⟩, fun k => k ≤ p.ns.length, fun k => p.ns.length - k, 0, Nat.zero_le _, ?_, fun k hx1 => ?_⟩
        · skip
          repeat (refine Ob.mk ?_ ?_; (focus (first | (exact ehl.symm) | (exact fun _ _ _ _ => rfl) | (rw [eh]; rfl) | (rw [eh]; exact rows_n (N := 3) ⟨⟨rfl, rfl, rfl, rfl, rfl⟩, ⟨rfl, rfl, rfl, rfl, rfl⟩, ⟨rfl, rfl, rfl, rfl, rfl⟩, trivial⟩) | (exact Eq.refl _) | (exact Nat.le_of_ble_eq_true rfl))))
          trivial
        refine ⟨fun h11 => ?_, fun h11 => ?_⟩
        · skip
          have c11 := h11
          (simp only [bsX] at c11)
          have hk : k < p.ns.length := by omega
          have hM := shP_next hk
          have hl1 : (shP p k).length + 1 = (shP p (k + 1)).length := by rw [hM]; simp
          have hsl := shP_len (p := p) k
          repeat (refine Ob.mk ?_ ?_; (focus (first | (exact Eq.refl _) | assumption | omega | (simp only [SrcE.len, Nat.zero_add, List.length_append, List.length_cons, List.length_nil]; omega))))
          refine ⟨k + 1, (by assumption), (by (simp only [SrcE.len, Nat.zero_add, List.length_append, List.length_cons, List.length_nil]; omega)), ?_⟩
          repeat (refine Ob.mk ?_ ?_; focus (first | (exact hl1) | (exact sq_snoc (L := shP p k) (s := n10 (p.ns.getD k [])) (fun _ _ _ _ => rfl) rfl rfl hM) | (exact fun _ _ _ _ => rfl) | (exact Eq.refl _) | (exact Nat.le_of_ble_eq_true rfl)))
          trivial
        · skip
          have c11 := h11
          (simp only [bsX] at c11)
          obtain rfl : k = p.ns.length := by omega
          repeat (refine Ob.mk ?_ ?_; focus (first | (exact fun _ _ _ _ => rfl) | (exact Eq.refl _)))
          trivial
      · skip
        have c10 := h10
        (simp only [bsX] at c10)
        have e8 := s8_le c10
        have eh : shP p 0 = ⟨4, p.k, 0, []⟩ :: (s6 p ++ s7 p ++ s8 p) := List.append_nil _
        rw [e6, e7, e8] at eh
        have ehl := congrArg List.length eh
        refine ⟨Nat, fun k => ⟨[(3, .osl 61 (shP p k).length), (38, netsE p.ns), (39, .i (p.ns.length : Int)), (40, .i (k : Int))], [(61, .rz (shP p k).length 5 (stQ (shP p k)) 53 0)]⟩, fun k => k ≤ p.ns.length, fun k => p.ns.length - k, 0, Nat.zero_le _, ?_, fun k hx1 => ?_⟩
        · skip
          repeat (refine Ob.mk ?_ ?_; (focus (first | (exact ehl.symm) | (exact fun _ _ _ _ => rfl) | (rw [eh]; rfl) | (rw [eh]; exact rows_n (N := 2) ⟨⟨rfl, rfl, rfl, rfl, rfl⟩, ⟨rfl, rfl, rfl, rfl, rfl⟩, trivial⟩) | (exact Eq.refl _) | (exact Nat.le_of_ble_eq_true rfl))))
          trivial
        refine ⟨fun h12 => ?_, fun h12 => ?_⟩
        · skip
          have c12 := h12
          (simp only [bsX] at c12)
          have hk : k < p.ns.length := by omega
          have hM := shP_next hk
          have hl1 : (shP p k).length + 1 = (shP p (k + 1)).length := by rw [hM]; simp
          have hsl := shP_len (p := p) k
          repeat (refine Ob.mk ?_ ?_; (focus (first | (exact Eq.refl _) | assumption | omega | (simp only [SrcE.len, Nat.zero_add, List.length_append, List.length_cons, List.length_nil]; omega))))
          refine ⟨k + 1, (by assumption), (by (simp only [SrcE.len, Nat.zero_add, List.length_append, List.length_cons, List.length_nil]; omega)), ?_⟩
          repeat (refine Ob.mk ?_ ?_; focus (first | (exact hl1) | (exact sq_snoc (L := shP p k) (s := n10 (p.ns.getD k [])) (fun _ _ _ _ => rfl) rfl rfl hM) | (exact fun _ _ _ _ => rfl) | (exact Eq.refl _) | (exact Nat.le_of_ble_eq_true rfl)))
          trivial
        · skip
          have c12 := h12
          (simp only [bsX] at c12)
          obtain rfl : k = p.ns.length := by omega
          repeat (refine Ob.mk ?_ ?_; focus (first | (exact fun _ _ _ _ => rfl) | (exact Eq.refl _)))
          trivial
    · skip
      have c9 := h9
      (simp only [bsX] at c9)
      have e7 := s7_eq (by simpa using h9)
      refine ⟨fun h13 => ?_, fun h13 => ?_⟩
      · skip
        have c13 := h13
        (simp only [bsX] at c13)
        have e8 := s8_gt c13
        repeat (refine Ob.mk ?_ ?_; focus (first | (exact Eq.refl _) | (exact Nat.le_of_ble_eq_true rfl)))
        have eh : shP p 0 = ⟨4, p.k, 0, []⟩ :: (s6 p ++ s7 p ++ s8 p) := List.append_nil _
        rw [e6, e7, e8] at eh
        have ehl := congrArg List.length eh
        refine ⟨Nat, fun k => ⟨[(3, .osl 61 (shP p k).length), (38, netsE p.ns), (39, .i (p.ns.length : Int)), (40, .i (k : Int))], [(61, .rz (shP p k).length 5 (stQ (shP p k)) 53 0)]⟩, fun k => k ≤ p.ns.length, fun k => p.ns.length - k, 0, Nat.zero_le _, ?_, fun k hx1 => ?_⟩
        · skip
          repeat (refine Ob.mk ?_ ?_; (focus (first | (exact ehl.symm) | (exact fun _ _ _ _ => rfl) | (rw [eh]; rfl) | (rw [eh]; exact rows_n (N := 2) ⟨⟨rfl, rfl, rfl, rfl, rfl⟩, ⟨rfl, rfl, rfl, rfl, rfl⟩, trivial⟩) | (exact Eq.refl _) | (exact Nat.le_of_ble_eq_true rfl))))
          trivial
        refine ⟨fun h14 => ?_, fun h14 => ?_⟩
        · skip
          have c14 := h14
          (simp only [bsX] at c14)
          have hk : k < p.ns.length := by omega
          have hM := shP_next hk
          have hl1 : (shP p k).length + 1 = (shP p (k + 1)).length := by rw [hM]; simp
          have hsl := shP_len (p := p) k
          repeat (refine Ob.mk ?_ ?_; (focus (first | (exact Eq.refl _) | assumption | omega | (simp only [SrcE.len, Nat.zero_add, List.length_append, List.length_cons, List.length_nil]; omega))))
          refine ⟨k + 1, (by assumption), (by (simp only [SrcE.len, Nat.zero_add, List.length_append, List.length_cons, List.length_nil]; omega)), ?_⟩
          repeat (refine Ob.mk ?_ ?_; focus (first | (exact hl1) | (exact sq_snoc (L := shP p k) (s := n10 (p.ns.getD k [])) (fun _ _ _ _ => rfl) rfl rfl hM) | (exact fun _ _ _ _ => rfl) | (exact Eq.refl _) | (exact Nat.le_of_ble_eq_true rfl)))
          trivial
        · skip
          have c14 := h14
          (simp only [bsX] at c14)
          obtain rfl : k = p.ns.length := by omega
          repeat (refine Ob.mk ?_ ?_; focus (first | (exact fun _ _ _ _ => rfl) | (exact Eq.refl _)))
          trivial
      · skip
        have c13 := h13
        (simp only [bsX] at c13)
        have e8 := s8_le c13
        have eh : shP p 0 = ⟨4, p.k, 0, []⟩ :: (s6 p ++ s7 p ++ s8 p) := List.append_nil _
        rw [e6, e7, e8] at eh
        have ehl := congrArg List.length eh
        refine ⟨Nat, fun k => ⟨[(3, .osl 61 (shP p k).length), (38, netsE p.ns), (39, .i (p.ns.length : Int)), (40, .i (k : Int))], [(61, .rz (shP p k).length 5 (stQ (shP p k)) 53 0)]⟩, fun k => k ≤ p.ns.length, fun k => p.ns.length - k, 0, Nat.zero_le _, ?_, fun k hx1 => ?_⟩
        · skip
          repeat (refine Ob.mk ?_ ?_; (focus (first | (exact ehl.symm) | (exact fun _ _ _ _ => rfl) | (rw [eh]; rfl) | (rw [eh]; exact rows_n (N := 1) ⟨⟨rfl, rfl, rfl, rfl, rfl⟩, trivial⟩) | (exact Eq.refl _) | omega)))
          trivial
        refine ⟨fun h15 => ?_, fun h15 => ?_⟩
        · skip
          have c15 := h15
          (simp only [bsX] at c15)
          have hk : k < p.ns.length := by omega
          have hM := shP_next hk
          have hl1 : (shP p k).length + 1 = (shP p (k + 1)).length := by rw [hM]; simp
          have hsl := shP_len (p := p) k
          repeat (refine Ob.mk ?_ ?_; (focus (first | (exact Eq.refl _) | assumption | omega | (simp only [SrcE.len, Nat.zero_add, List.length_append, List.length_cons, List.length_nil]; omega))))
          refine ⟨k + 1, (by assumption), (by (simp only [SrcE.len, Nat.zero_add, List.length_append, List.length_cons, List.length_nil]; omega)), ?_⟩
          repeat (refine Ob.mk ?_ ?_; focus (first | (exact hl1) | (exact sq_snoc (L := shP p k) (s := n10 (p.ns.getD k [])) (fun _ _ _ _ => rfl) rfl rfl hM) | (exact fun _ _ _ _ => rfl) | (exact Eq.refl _) | (exact Nat.le_of_ble_eq_true rfl)))
          trivial
        · skip
          have c15 := h15
          (simp only [bsX] at c15)
          obtain rfl : k = p.ns.length := by omega
          repeat (refine Ob.mk ?_ ?_; focus (first | (exact fun _ _ _ _ => rfl) | (exact Eq.refl _)))
          trivial
/-! ### What a configuration is shown as -/
end Go.Proofs.YtfpglljpngiipaaDoor
