/- LineTurns, LineBack: the walks of the statements' functions. -/
import Derived.Test.YtcdoobkaobiacaaDoorCLine
import Derived.Test.YtcdoobkaobiacaaDoorCKey
namespace Go.Proofs.YtcdoobkaobiacaaDoor
open Go.RowKit
set_option linter.unusedVariables false
set_option linter.unusedSimpArgs false

set_option maxRecDepth 100000 in
set_option maxHeartbeats 4000000 in
theorem cf_LineTurns {s : List UInt8} (hs : s.length ≤ 140737488355328) : Cf Tryd.prog 4 [] [.s s] [] (.b true) := by
  have hc := List.count_le_length (a := (10 : UInt8)) (l := s)
  have hB := cf_lnSplit (s := [97, 61, 98, 10, 99])
  rw [show splitR [97, 61, 98, 10, 99] = ([], 2, 3) from by decide] at hB
  have hJ := cf_lnJoin (L := (splitR s).1)
  refine Cf.introR tabT {} D0 (by kernel_rfl) tab_ok Tryd.func4 Tryd.ntmps4 rfl rfl (D0_ok) (by kernel_rfl) ?_
  refine ⟨_, _, _, _, (cf_lnSplit (s := s)), ?_⟩
  repeat (refine Ob.mk ?_ ?_; focus ((exact Eq.refl _)))
  refine ⟨_, _, _, _, hB, ?_⟩
  repeat (refine Ob.mk ?_ ?_; (focus (first | (exact Eq.refl _) | (intro _; exact Eq.refl _))))
  refine ⟨fun h1 => ?_, fun h1 => ?_⟩
  · skip
    (simp only [Int.reduceToNat, UInt8.reduceOfNat] at h1)
    have c1 := h1
    (simp only [bsX] at c1)
    exact absurd (show false = true from h1) (by decide)
  · skip
    (simp only [Int.reduceToNat, UInt8.reduceOfNat] at h1)
    have c1 := h1
    (simp only [bsX] at c1)
    refine ⟨fun h2 => ?_, fun h2 => ?_⟩
    · skip
      have c2 := h2
      (simp only [bsX] at c2)
      have hT := turns_no (s := s) (by simpa using h2)
      repeat (refine Ob.mk ?_ ?_; (focus (((simp [hT.1, hT.2.1, hT.2.2]; done)))))
      refine gx2 (cf_Count1 (l := s) (c := 10)) (fun hk => ⟨fun _ => hk, ?_⟩)
      repeat (refine Ob.mk ?_ ?_; (focus (first | (simp [hT.1, hT.2.1, hT.2.2]; done) | omega)))
      trivial
    · skip
      have c2 := h2
      (simp only [bsX] at c2)
      have hO := turns_ok (s := s) (by simpa using h2)
      rw [hO.1] at hJ
      refine ⟨_, _, _, _, hJ, ?_⟩
      repeat (refine Ob.mk ?_ ?_; (focus (((simp [hO.2]; done)))))
      trivial
abbrev rA (l : List RawS) (i : Nat) : RawS := l.getD i default
def kk4 : List (List UInt8) := [[97], [98, 95, 99], [107, 101, 121], [122, 122]]
def lnOf (r : RawS) : LnP := (kk4.getD (pk r.k 4).toNat [], Lib.repeatL [118, 61] (pk r.a 30).toNat)
def lnsL (l : List RawS) : List LnP := (List.range (min l.length 20)).map fun i => lnOf (rA l i)
theorem lnsL_len (l : List RawS) : (lnsL l).length = min l.length 20 := by unfold lnsL; simp
theorem lnsL_at (l : List RawS) : ∀ i, i < min l.length 20 → ∀ j, j < 2 → (fun a b => lnc (lnOf (rA l a)) b) i j = lnF (lnsL l) i j := by
  intro i hi j hj
  show lnc (lnOf (rA l i)) j = lnc ((lnsL l).getD i ([], [])) j
  unfold lnsL
  rw [List.getD_eq_getElem?_getD, List.getElem?_map, List.getElem?_range hi]; rfl
theorem rA_in {l : List RawS} (hl : ∀ x ∈ l, x.inn) {i : Nat} (hi : i < l.length) : (rA l i).inn := by
  have e : rA l i = l[i] := by show l.getD i default = l[i]; rw [List.getD_eq_getElem?_getD, List.getElem?_eq_getElem hi]; rfl
  rw [e]; exact hl _ (List.getElem_mem hi)
theorem cf_pickedN {n m : Int} {q : Nat} (hn : IntIn n) (hm : 0 < m) (hq : pk n m = (q : Int)) : Cf Tryd.prog 20 [] [.i n, .i m] [] (.i (q : Int)) := hq ▸ cf_picked hn.1 hn.2 hm
set_option maxRecDepth 100000 in
set_option maxHeartbeats 4000000 in
theorem cf_lines {l : List RawS} (hl : ∀ x ∈ l, x.inn) (hn : (l.length : Int) ≤ 9223372036854775807) : Cf Tryd.prog 24 [] [rawsE l] [] (linesE (lnsL l)) := by
  have hz := lnsL_len l
  refine Cf.introR tabT {nl := [(3, 55, 2)]} (DR _ _ _ tabT {nl := [(3, 55, 2)]}) (by kernel_rfl) tab_ok Tryd.func24 Tryd.ntmps24 rfl rfl (DR_ok tab_ok (by kernel_rfl)) (by kernel_rfl) ?_
  refine ⟨Nat, fun i => ⟨[(3, .osl 1003 (min i 20)), (6, rawsE l), (7, .i (l.length : Int)), (8, .i (i : Int))], [(1003, .rz (min i 20) 2 (fun a b => lnc (lnOf (rA l a)) b) 55 0)]⟩, fun i => i ≤ l.length, fun i => l.length - i, 0, by omega, ?_, fun i hx1 => ?_⟩
  · skip
    repeat (refine Ob.mk ?_ ?_; (focus (first | (exact Eq.refl _) | omega | (intro hg; ((intro hq; ((simp_all; done))))))))
    trivial
  refine ⟨fun h1 => ?_, fun h1 => ?_⟩
  · skip
    have c1 := h1
    (simp only [bsX] at c1)
    have hi : i < l.length := by omega
    have hI := rA_in hl hi
    repeat (refine Ob.mk ?_ ?_; focus (first | assumption | omega))
    refine ⟨fun h2 => ?_, fun h2 => ?_⟩
    · skip
      have c2 := h2
      (simp only [bsX] at c2)
      have hm1 : min (i + 1) 20 = min i 20 + 1 := by omega
      have hm2 : min i 20 = i := by omega
      have hg1 := pk_ge (rA l i).k (m := 4) (by decide)
      have hg2 := pk_lt (rA l i).k (m := 4) (by decide)
      have hg3 := pk_ge (rA l i).a (m := 30) (by decide)
      have hg4 := pk_lt (rA l i).a (m := 30) (by decide)
      obtain ⟨q, hq, hq4⟩ : ∃ q : Nat, pk (rA l i).k 4 = (q : Int) ∧ q < 4 := ⟨(pk (rA l i).k 4).toNat, by omega, by omega⟩
      obtain ⟨c, hc, hc30⟩ : ∃ c : Nat, pk (rA l i).a 30 = (c : Int) ∧ c < 30 := ⟨(pk (rA l i).a 30).toNat, by omega, by omega⟩
      have hkk : kk4.getD (pk (rA l (min i 20)).k 4).toNat [] = kk4.getD q [] := by rw [hm2, hq, Int.toNat_natCast]
      have hcc : Lib.repeatL [118, 61] (pk (rA l (min i 20)).a 30).toNat = Lib.repeatL [118, 61] c := by rw [hm2, hc, Int.toNat_natCast]
      rcases (by omega : q = 0 ∨ q = 1 ∨ q = 2 ∨ q = 3) with rfl | rfl | rfl | rfl
      · skip
        refine ⟨[0, 0, 0, 4, 12, 30, 62, 0, 128, 412, 924, 2046, 4094, 8191, 16383], by kernel_rfl, ?_⟩
        refine ⟨_, _, _, _, (cf_pickedN hI.1 (by decide) hq), ?_⟩
        repeat (refine Ob.mk ?_ ?_; focus (first | (exact Eq.refl _) | omega))
        refine ⟨_, _, _, _, (cf_pickedN hI.2.1 (by decide) hc), ?_⟩
        repeat (refine Ob.mk ?_ ?_; focus ((exact Eq.refl _)))
        refine ⟨_, _, _, _, (cf_Repeat (l := [118, 61]) (c := c) (by omega) (by decide)), ?_⟩
        repeat (refine Ob.mk ?_ ?_; (focus (first | (exact Eq.refl _) | omega | (simp only [SrcE.len, Nat.zero_add, List.length_append, List.length_cons, List.length_nil]; omega))))
        refine ⟨i + 1, (by assumption), (by (simp only [SrcE.len, Nat.zero_add, List.length_append, List.length_cons, List.length_nil]; omega)), ?_⟩
        repeat (refine Ob.mk ?_ ?_; (focus (first | (exact hm1.symm) | (exact ln_snoc (fun _ _ _ _ => rfl) (fun j hj => by (have hj2 : j = 0 ∨ j = 1 := by omega); rcases hj2 with rfl | rfl; (show _ = EV.s (kk4.getD (pk (rA l (min i 20)).k 4).toNat []); rw [hkk]; exact Eq.refl _); (show _ = EV.s (Lib.repeatL [118, 61] (pk (rA l (min i 20)).a 30).toNat); rw [hcc]; exact Eq.refl _))) | (exact Eq.refl _) | (exact Nat.le_of_ble_eq_true rfl) | (intro hg; ((intro hq; ((simp_all; done))))))))
        trivial
      · skip
        refine ⟨[0, 0, 0, 4, 12, 30, 62, 0, 128, 412, 924, 2046, 4094, 8191, 16383], by kernel_rfl, ?_⟩
        refine ⟨_, _, _, _, (cf_pickedN hI.1 (by decide) hq), ?_⟩
        repeat (refine Ob.mk ?_ ?_; focus (first | (exact Eq.refl _) | omega))
        refine ⟨_, _, _, _, (cf_pickedN hI.2.1 (by decide) hc), ?_⟩
        repeat (refine Ob.mk ?_ ?_; focus ((exact Eq.refl _)))
        refine ⟨_, _, _, _, (cf_Repeat (l := [118, 61]) (c := c) (by omega) (by decide)), ?_⟩
        repeat (refine Ob.mk ?_ ?_; (focus (first | (exact Eq.refl _) | omega | (simp only [SrcE.len, Nat.zero_add, List.length_append, List.length_cons, List.length_nil]; omega))))
        refine ⟨i + 1, (by assumption), (by (simp only [SrcE.len, Nat.zero_add, List.length_append, List.length_cons, List.length_nil]; omega)), ?_⟩
        repeat (refine Ob.mk ?_ ?_; (focus (first | (exact hm1.symm) | (exact ln_snoc (fun _ _ _ _ => rfl) (fun j hj => by (have hj2 : j = 0 ∨ j = 1 := by omega); rcases hj2 with rfl | rfl; (show _ = EV.s (kk4.getD (pk (rA l (min i 20)).k 4).toNat []); rw [hkk]; exact Eq.refl _); (show _ = EV.s (Lib.repeatL [118, 61] (pk (rA l (min i 20)).a 30).toNat); rw [hcc]; exact Eq.refl _))) | (exact Eq.refl _) | (exact Nat.le_of_ble_eq_true rfl) | (intro hg; ((intro hq; ((simp_all; done))))))))
        trivial
      · skip
        refine ⟨[0, 0, 0, 4, 12, 30, 62, 0, 128, 412, 924, 2046, 4094, 8191, 16383], by kernel_rfl, ?_⟩
        refine ⟨_, _, _, _, (cf_pickedN hI.1 (by decide) hq), ?_⟩
        repeat (refine Ob.mk ?_ ?_; focus (first | (exact Eq.refl _) | omega))
        refine ⟨_, _, _, _, (cf_pickedN hI.2.1 (by decide) hc), ?_⟩
        repeat (refine Ob.mk ?_ ?_; focus ((exact Eq.refl _)))
        refine ⟨_, _, _, _, (cf_Repeat (l := [118, 61]) (c := c) (by omega) (by decide)), ?_⟩
        repeat (refine Ob.mk ?_ ?_; (focus (first | (exact Eq.refl _) | omega | (simp only [SrcE.len, Nat.zero_add, List.length_append, List.length_cons, List.length_nil]; omega))))
        refine ⟨i + 1, (by assumption), (by (simp only [SrcE.len, Nat.zero_add, List.length_append, List.length_cons, List.length_nil]; omega)), ?_⟩
        repeat (refine Ob.mk ?_ ?_; (focus (first | (exact hm1.symm) | (exact ln_snoc (fun _ _ _ _ => rfl) (fun j hj => by (have hj2 : j = 0 ∨ j = 1 := by omega); rcases hj2 with rfl | rfl; (show _ = EV.s (kk4.getD (pk (rA l (min i 20)).k 4).toNat []); rw [hkk]; exact Eq.refl _); (show _ = EV.s (Lib.repeatL [118, 61] (pk (rA l (min i 20)).a 30).toNat); rw [hcc]; exact Eq.refl _))) | (exact Eq.refl _) | (exact Nat.le_of_ble_eq_true rfl) | (intro hg; ((intro hq; ((simp_all; done))))))))
        trivial
      · skip
        refine ⟨[0, 0, 0, 4, 12, 30, 62, 0, 128, 412, 924, 2046, 4094, 8191, 16383], by kernel_rfl, ?_⟩
        refine ⟨_, _, _, _, (cf_pickedN hI.1 (by decide) hq), ?_⟩
        repeat (refine Ob.mk ?_ ?_; focus (first | (exact Eq.refl _) | omega))
        refine ⟨_, _, _, _, (cf_pickedN hI.2.1 (by decide) hc), ?_⟩
        repeat (refine Ob.mk ?_ ?_; focus ((exact Eq.refl _)))
        refine ⟨_, _, _, _, (cf_Repeat (l := [118, 61]) (c := c) (by omega) (by decide)), ?_⟩
        repeat (refine Ob.mk ?_ ?_; (focus (first | (exact Eq.refl _) | omega | (simp only [SrcE.len, Nat.zero_add, List.length_append, List.length_cons, List.length_nil]; omega))))
        refine ⟨i + 1, (by assumption), (by (simp only [SrcE.len, Nat.zero_add, List.length_append, List.length_cons, List.length_nil]; omega)), ?_⟩
        repeat (refine Ob.mk ?_ ?_; (focus (first | (exact hm1.symm) | (exact ln_snoc (fun _ _ _ _ => rfl) (fun j hj => by (have hj2 : j = 0 ∨ j = 1 := by omega); rcases hj2 with rfl | rfl; (show _ = EV.s (kk4.getD (pk (rA l (min i 20)).k 4).toNat []); rw [hkk]; exact Eq.refl _); (show _ = EV.s (Lib.repeatL [118, 61] (pk (rA l (min i 20)).a 30).toNat); rw [hcc]; exact Eq.refl _))) | (exact Eq.refl _) | (exact Nat.le_of_ble_eq_true rfl) | (intro hg; ((intro hq; ((simp_all; done))))))))
        trivial
    · skip
      have c2 := h2
      (simp only [bsX] at c2)
      have hm1 : min (i + 1) 20 = min i 20 := by omega
      repeat (refine Ob.mk ?_ ?_; focus (omega))
      refine ⟨i + 1, (by assumption), (by (simp only [SrcE.len, Nat.zero_add, List.length_append, List.length_cons, List.length_nil]; omega)), ?_⟩
      repeat (refine Ob.mk ?_ ?_; (focus (first | (exact hm1.symm) | (exact Eq.refl _) | omega | (intro hg; ((intro hq; ((simp_all; done))))))))
      trivial
  · skip
    have c1 := h1
    (simp only [bsX] at c1)
    have hi : i = l.length := by have : i ≤ l.length := hx1; omega
    subst hi
    repeat (refine Ob.mk ?_ ?_; (focus (first | (rw [hz]; done) | (exact lnsL_at l) | (exact Eq.refl _))))
    trivial
theorem ln_fin : ∀ q : Fin 4, ∀ c : Fin 30, lnC (kk4.getD q.val []) (Lib.repeatL [118, 61] c.val) = 0 := by decide +kernel
theorem lnOf_ok (r : RawS) : lnC (lnOf r).1 (lnOf r).2 = 0 := by
  have h1 := pk_ge r.k (m := 4) (by decide); have h2 := pk_lt r.k (m := 4) (by decide)
  have h3 := pk_ge r.a (m := 30) (by decide); have h4 := pk_lt r.a (m := 30) (by decide)
  exact ln_fin ⟨(pk r.k 4).toNat, by omega⟩ ⟨(pk r.a 30).toNat, by omega⟩
theorem lnsL_ok (l : List RawS) : ∀ x ∈ lnsL l, lnC x.1 x.2 = 0 := fun x hx => by
  obtain ⟨i, _, rfl⟩ := List.mem_map.1 hx
  exact lnOf_ok _
set_option maxRecDepth 100000 in
set_option maxHeartbeats 4000000 in
theorem cf_lnEqO {L : List LnP} (hn : L.length ≤ 1100000) : Cf Tryd.prog 25 [] [linesE L, linesE L] [] (.b true) := by
  refine Cf.introR tabT {} (DR _ _ _ tabT {}) (by kernel_rfl) tab_ok Tryd.func25 Tryd.ntmps25 rfl rfl (DR_ok tab_ok (by kernel_rfl)) (by kernel_rfl) ?_
  refine ⟨fun h1 => ?_, fun h1 => ?_⟩
  · skip
    (simp only [Int.reduceToNat, UInt8.reduceOfNat] at h1)
    have c1 := h1
    (simp only [bsX] at c1)
    exact absurd h1 (by simp)
  · skip
    (simp only [Int.reduceToNat, UInt8.reduceOfNat] at h1)
    have c1 := h1
    (simp only [bsX] at c1)
    refine ⟨Nat, fun i => ⟨[(0, linesE L), (1, linesE L), (12, .i (L.length : Int)), (13, .i (i : Int))], []⟩, fun i => i ≤ L.length, fun i => L.length - i, 0, by omega, ?_, fun i hx1 => ?_⟩
    · skip
      repeat (refine Ob.mk ?_ ?_; (focus (first | (exact Eq.refl _) | (intro hg; ((intro hq; ((simp_all; done))))))))
      trivial
    refine ⟨fun h2 => ?_, fun h2 => ?_⟩
    · skip
      have c2 := h2
      (simp only [bsX] at c2)
      refine ⟨[0, 0, 3, 7, 0, 0, 48, 112, 255], by kernel_rfl, ?_⟩
      repeat (refine Ob.mk ?_ ?_; focus (omega))
      refine ⟨fun h3 => ?_, fun h3 => ?_⟩
      · skip
        (simp only [Int.reduceToNat, UInt8.reduceOfNat] at h3)
        have c3 := h3
        (simp only [bsX] at c3)
        exact absurd h3 (by simp)
      · skip
        (simp only [Int.reduceToNat, UInt8.reduceOfNat] at h3)
        have c3 := h3
        (simp only [bsX] at c3)
        repeat (refine Ob.mk ?_ ?_; focus (omega))
        refine ⟨i + 1, (by omega), (by (simp only [SrcE.len, Nat.zero_add, List.length_append, List.length_cons, List.length_nil]; omega)), ?_⟩
        repeat (refine Ob.mk ?_ ?_; (focus (first | (exact Eq.refl _) | (intro hg; ((intro hq; ((simp_all; done))))))))
        trivial
    · skip
      have c2 := h2
      (simp only [bsX] at c2)
      repeat (refine Ob.mk ?_ ?_; focus ((exact Eq.refl _)))
      trivial
set_option maxRecDepth 100000 in
set_option maxHeartbeats 4000000 in
theorem cf_LineBackO {l : List RawS} {L : List LnP} (hl : ∀ x ∈ l, x.inn) (hn : (l.length : Int) ≤ 9223372036854775807) (hL : L = lnsL l) : Cf Tryd.prog 5 [] [rawsE l] [] (.b true) := by
  have hLn : L.length ≤ 20 := by rw [hL, lnsL_len]; omega
  have hOk : ∀ x ∈ L, lnC x.1 x.2 = 0 := by rw [hL]; exact lnsL_ok l
  have hLs := cf_lines hl hn
  rw [← hL] at hLs
  have hlen := jtx_len hOk
  have hB := back_ok (by omega) hOk (by omega)
  have hJ := cf_lnJoin (L := L)
  rw [hB.1] at hJ
  have hS := cf_lnSplit (s := jtx L)
  rw [hB.2] at hS
  have hC := cf_lnSplit (s := [97, 61, 98, 61, 99])
  rw [show splitR [97, 61, 98, 61, 99] = ([([97], [98, 61, 99])], 0, 0) from by decide] at hC
  have hQ := cf_lnEqO (L := L) (by omega)
  refine Cf.introR tabT {} D0 (by kernel_rfl) tab_ok Tryd.func5 Tryd.ntmps5 rfl rfl (D0_ok) (by kernel_rfl) ?_
  refine ⟨_, _, _, _, hLs, ?_⟩
  repeat (refine Ob.mk ?_ ?_; (focus (first | (exact Eq.refl _) | (intro hg; ((intro hq; ((simp_all; done))))))))
  refine ⟨_, _, _, _, hJ, ?_⟩
  repeat (refine Ob.mk ?_ ?_; (focus (first | (exact Eq.refl _) | (intro hg; ((intro hq; ((simp_all; done))))))))
  refine ⟨_, _, _, _, hS, ?_⟩
  repeat (refine Ob.mk ?_ ?_; focus ((exact Eq.refl _)))
  refine ⟨_, _, _, _, hC, ?_⟩
  repeat (refine Ob.mk ?_ ?_; (focus (first | (exact Eq.refl _) | (intro _; exact Eq.refl _) | (simp only [SrcE.len, Nat.zero_add, List.length_append, List.length_cons, List.length_nil]; omega))))
  refine gx2 (hQ) (fun hk => ⟨fun _ => hk, ?_⟩)
  repeat (refine Ob.mk ?_ ?_; (focus (first | (exact Eq.refl _) | (intro _; exact Eq.refl _) | (intro hg; ((intro hq; ((simp_all; done))))))))
  trivial
theorem cf_LineBack {l : List RawS} (hl : ∀ x ∈ l, x.inn) (hn : (l.length : Int) ≤ 9223372036854775807) : Cf Tryd.prog 5 [] [rawsE l] [] (.b true) := cf_LineBackO hl hn rfl
end Go.Proofs.YtcdoobkaobiacaaDoor
