/- ShowPeers: the walk of the statement's function. -/
import Derived.Test.YtfpglljpngiipaaDoorCConf
import Derived.Test.YtfpglljpngiipaaDoorCShow
namespace Go.Proofs.YtfpglljpngiipaaDoor
open Go.RowKit Go.Lib
set_option linter.unusedVariables false
set_option linter.unusedSimpArgs false

theorem ConfOk.peers {c : ConfS} (h : ConfOk c) : ConfOk ⟨[], 0, c.ps⟩ :=
  ⟨.inl rfl, ⟨Int.le_refl _, (by decide : (0 : Int) ≤ 65535)⟩, h.pl, fun p hp => ⟨(h.ps p hp).1, fun e => by
    have := key_len (h.ps p hp).1.k
    rw [show p.k = [] from e] at this; cases this⟩, h.inc, h.nd⟩
def oneP : PeerS := ⟨keyN 1, [], [], 0, []⟩
theorem oneP_ok : PeerOk oneP := ⟨keyN_ok 1 (by decide), .inl rfl, .inl rfl, ⟨by decide, by decide⟩, by decide, fun n h => (by cases h), List.Pairwise.nil⟩
theorem allP_peers {c : ConfS} : allS ⟨[], 0, c.ps⟩ = allP ⟨[], 0, c.ps⟩ c.ps.length := rfl
theorem showP_first {p : PeerS} : ¬ (((¬True ∨ ((showP p).length : Int) = 0) ∨ ¬ ((showP p).getD 0 set0).k = 4) ∨ ¬ ((showP p).getD 0 set0).t = p.k) := by
  have h0 : 1 ≤ (showP p).length := Nat.succ_le_succ (Nat.zero_le _)
  rintro (((h | h) | h) | h)
  · exact h trivial
  · omega
  · exact h rfl
  · exact h rfl
set_option maxRecDepth 100000 in
set_option maxHeartbeats 4000000 in
theorem cf_ShowPeers {l : List RawS} (hl : ∀ x ∈ l, x.inn) (hn : (l.length : Int) ≤ 9223372036854775807) : Cf Tryd.prog 6 [] [rawsE l] [] (.b true) := by
  have hC := confR_ok l
  have hP := hC.peers
  have hpl := hC.pl
  have hA := allP_len hP (confR l).ps.length (Nat.le_refl _)
  have hA2 : (allS ⟨[], 0, (confR l).ps⟩).length ≤ 100 := by show (allP ⟨[], 0, (confR l).ps⟩ (confR l).ps.length).length ≤ 100; omega
  refine Cf.introR tabT {nl := [(6, 53, 5)], fk := [80]} (DR _ _ _ tabT {nl := [(6, 53, 5)], fk := [80]}) (by kernel_rfl) tab_ok Tryd.func6 Tryd.ntmps6 rfl rfl (DR_ok tab_ok (by kernel_rfl)) (by kernel_rfl) ?_
  refine ⟨_, _, _, _, (cf_kConf hl hn), ?_⟩
  repeat (refine Ob.mk ?_ ?_; (focus (first | (exact Eq.refl _) | (intro hg; ((intro hq; ((simp_all; done))))))))
  refine ⟨_, _, _, _, (cf_All (c := ⟨[], 0, (confR l).ps⟩) hP), ?_⟩
  repeat (refine Ob.mk ?_ ?_; (focus (first | (exact Eq.refl _) | (intro hg; ((intro hq; ((simp_all; done))))))))
  refine ⟨Nat, fun i => ⟨[(2, .b false), (3, .own 1003 0), (4, setsE (allS ⟨[], 0, (confR l).ps⟩)), (5, .i 0), (6, .osl 61 (allP ⟨[], 0, (confR l).ps⟩ i).length), (23, peersE (confR l).ps), (24, .i ((confR l).ps.length : Int)), (25, .i (i : Int))], [(1003, .box [.s (confR l).k, .i (confR l).port, peersE (confR l).ps] 67), (61, .rz (allP ⟨[], 0, (confR l).ps⟩ i).length 5 (stF (allP ⟨[], 0, (confR l).ps⟩ i)) 53 0)]⟩, fun i => i ≤ (confR l).ps.length, fun i => (confR l).ps.length - i, 0, Nat.zero_le _, ?_, fun i hx1 => ?_⟩
  · skip
    repeat (refine Ob.mk ?_ ?_; (focus (first | (exact Eq.refl _) | omega | (intro hg; ((intro hq; ((simp_all; done))))))))
    trivial
  refine ⟨fun h1 => ?_, fun h1 => ?_⟩
  · skip
    have c1 := h1
    (simp only [bsX] at c1)
    have hi : i < (confR l).ps.length := by omega
    have hM : allP ⟨[], 0, (confR l).ps⟩ (i + 1) = allP ⟨[], 0, (confR l).ps⟩ i ++ showP (pA (confR l) i) := allP_next (c := ⟨[], 0, (confR l).ps⟩) hi
    have hl1 : (allP ⟨[], 0, (confR l).ps⟩ i).length + (showP (pA (confR l) i)).length = (allP ⟨[], 0, (confR l).ps⟩ (i + 1)).length := by rw [hM]; simp
    have hsl := allP_len hP (i + 1) hi
    have hP0 : 1 ≤ (showP (pA (confR l) i)).length := Nat.succ_le_succ (Nat.zero_le _)
    repeat (refine Ob.mk ?_ ?_; focus (first | assumption | omega))
    refine ⟨_, _, _, _, (cf_Peer (p := pA (confR l) i) (hC.ps _ (pA_mem hi)).1), ?_⟩
    repeat (refine Ob.mk ?_ ?_; (focus (first | (exact Eq.refl _) | (intro hg; ((intro hq; ((simp_all; done))))))))
    refine ⟨[0, 1, 3, 7, 15, 31, 63, 127, 255, 511, 1023, 2047, 4095, 8191, 16383, 32767, 65535, 131071, 262143, 32767, 557055, 2097151, 4194303], by kernel_rfl, ?_⟩
    repeat (refine Ob.mk ?_ ?_; (focus (first | (exact fun _ => ⟨by omega, by omega⟩) | (exact fun _ => hP0) | (intro _; exact Eq.refl _))))
    refine ⟨fun h2 => ?_, fun h2 => ?_⟩
    · skip
      (simp only [Int.reduceToNat, UInt8.reduceOfNat] at h2)
      have c2 := h2
      (simp only [bsX] at c2)
      exact absurd c2 showP_first
    · skip
      (simp only [Int.reduceToNat, UInt8.reduceOfNat] at h2)
      have c2 := h2
      (simp only [bsX] at c2)
      repeat (refine Ob.mk ?_ ?_; (focus (first | (exact Eq.refl _) | omega | (simp only [SrcE.len, Nat.zero_add, List.length_append, List.length_cons, List.length_nil]; omega))))
      refine ⟨i + 1, (by assumption), (by (simp only [SrcE.len, Nat.zero_add, List.length_append, List.length_cons, List.length_nil]; omega)), ?_⟩
      repeat (refine Ob.mk ?_ ?_; (focus (first | (exact hl1) | (exact sq_app stc hM rfl) | (exact Eq.refl _) | (exact Nat.le_of_ble_eq_true rfl) | (intro hg; ((intro hq; ((simp_all; done))))))))
      trivial
  · skip
    have c1 := h1
    (simp only [bsX] at c1)
    obtain rfl : i = (confR l).ps.length := by omega
    refine ⟨_, _, _, _, (cf_KeyN (i := 1) (by decide)), ?_⟩
    repeat (refine Ob.mk ?_ ?_; focus ((exact Eq.refl _)))
    refine ⟨_, _, _, _, (cf_Peer (p := oneP) oneP_ok), ?_⟩
    repeat (refine Ob.mk ?_ ?_; (focus (first | (exact Eq.refl _) | (intro _; exact Eq.refl _))))
    refine gx (fun hc => (cf_setEqO (L := allS ⟨[], 0, (confR l).ps⟩) (by omega))) (fun hk => ⟨hk, ?_⟩)
    repeat (refine Ob.mk ?_ ?_; (focus (first | (exact fun _ _ _ _ _ => rfl) | (exact Eq.refl _) | (intro _; exact Eq.refl _))))
    trivial
end Go.Proofs.YtfpglljpngiipaaDoor
