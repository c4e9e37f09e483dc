/- ConfFound: the walk of the statement's function. -/
import Derived.Test.YtfpglljpngiipaaDoorCConf
import Derived.Test.YtfpglljpngiipaaDoorCConfC
namespace Go.Proofs.YtfpglljpngiipaaDoor
open Go.RowKit Go.Lib
set_option linter.unusedVariables false
set_option linter.unusedSimpArgs false

theorem none_key {p : PeerS} (h : PeerOk p) : p.k ≠ [110, 111, 110, 101] := fun e => by
  have := key_len h.k
  rw [e] at this; cases this
set_option maxRecDepth 100000 in
set_option maxHeartbeats 4000000 in
theorem cf_ConfFound {l : List RawS} (hl : ∀ x ∈ l, x.inn) (hn : (l.length : Int) ≤ 9223372036854775807) : Cf Tryd.prog 5 [] [rawsE l] [] (.b true) := by
  have hC := confR_ok l
  refine Cf.introR tabT {} D0 (by kernel_rfl) tab_ok Tryd.func5 Tryd.ntmps5 rfl rfl (D0_ok) (by kernel_rfl) ?_
  refine ⟨_, _, _, _, (cf_kConf hl hn), ?_⟩
  repeat (refine Ob.mk ?_ ?_; (focus (first | (exact Eq.refl _) | (intro hg; ((intro hq; ((simp_all; done))))))))
  refine ⟨Nat, fun i => ⟨[(2, .b false), (3, .own 1003 0), (13, peersE (confR l).ps), (14, .i ((confR l).ps.length : Int)), (15, .i (i : Int))], [(1003, .box [.s (confR l).k, .i (confR l).port, peersE (confR l).ps] 67)]⟩, fun i => i ≤ (confR l).ps.length, fun i => (confR l).ps.length - i, 0, Nat.zero_le _, ?_, fun i hx1 => ?_⟩
  · skip
    repeat (refine Ob.mk ?_ ?_; (focus (first | (exact Eq.refl _) | (intro hg; ((intro hq; ((simp_all; done))))))))
    trivial
  refine ⟨fun h1 => ?_, fun h1 => ?_⟩
  · skip
    have c1 := h1
    (simp only [bsX] at c1)
    have hi : i < (confR l).ps.length := by omega
    have hpl := hC.pl
    repeat (refine Ob.mk ?_ ?_; focus (first | assumption | omega))
    refine ⟨_, _, _, _, (cf_FindAt (c := confR l) hC hi), ?_⟩
    repeat (refine Ob.mk ?_ ?_; (focus (first | (exact Eq.refl _) | (intro _; exact Eq.refl _) | (intro hg; ((intro hq; ((simp_all; done))))))))
    refine ⟨fun h2 => ?_, fun h2 => ?_⟩
    · skip
      (simp only [Int.reduceToNat, UInt8.reduceOfNat] at h2)
      have c2 := h2
      (simp only [bsX] at c2)
      exact absurd c2 (by simp)
    · skip
      (simp only [Int.reduceToNat, UInt8.reduceOfNat] at h2)
      have c2 := h2
      (simp only [bsX] at c2)
      repeat (refine Ob.mk ?_ ?_; focus (omega))
      refine ⟨i + 1, (by assumption), (by (simp only [SrcE.len, Nat.zero_add, List.length_append, List.length_cons, List.length_nil]; omega)), ?_⟩
      repeat (refine Ob.mk ?_ ?_; (focus (first | (exact Eq.refl _) | (intro hg; ((intro hq; ((simp_all; done))))))))
      trivial
  · skip
    have c1 := h1
    (simp only [bsX] at c1)
    refine ⟨_, _, _, _, (cf_FindNo (c := confR l) hC fun p hp => none_key (hC.ps p hp).1), ?_⟩
    repeat (refine Ob.mk ?_ ?_; (focus (first | (exact Eq.refl _) | (intro hg; ((intro hq; ((simp_all; done))))))))
    refine gx (fun hc => (cf_RightX (p := ⟨[120], [], [], 0, []⟩) (e := 1) rfl (by decide))) (fun hk => ⟨hk, ?_⟩)
    repeat (refine Ob.mk ?_ ?_; (focus (((intro _; exact Eq.refl _)))))
    refine gx (fun hc => (cf_ConfCheck (c := confR l) hC)) (fun hk => ⟨hk, ?_⟩)
    repeat (refine Ob.mk ?_ ?_; (focus (first | (exact Eq.refl _) | (intro _; exact Eq.refl _) | (intro hg; ((intro hq; ((simp_all; done))))))))
    trivial
end Go.Proofs.YtfpglljpngiipaaDoor
