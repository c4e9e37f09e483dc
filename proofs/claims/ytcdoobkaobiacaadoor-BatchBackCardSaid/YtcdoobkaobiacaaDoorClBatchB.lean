/- BatchBack: the walk of the statement's function. -/
import Derived.Test.YtcdoobkaobiacaaDoorCBatchS
namespace Go.Proofs.YtcdoobkaobiacaaDoor
open Go.RowKit Go.Lib
set_option linter.unusedVariables false
set_option linter.unusedSimpArgs false

theorem ls1_is {x : SetS} (h : chkS x = 0) : lineS x = ((wrd x.k.toNat, valS x), 0) := by unfold lineS; rw [if_pos h]
theorem ls1_back {x : SetS} (h : chkS x = 0) (hp : x.p.length ≤ 32) : readS (ls1 x) = (x, 0) ∧ lnC (ls1 x).1 (ls1 x).2 = 0 ∧ (ltxt (ls1 x)).length ≤ 95 := by
  have e : ls1 x = (wrd x.k.toNat, valS x) := congrArg Prod.fst (ls1_is h)
  rw [e]
  refine ⟨read_line h hp, line_okL h hp, ?_⟩
  obtain ⟨h1, h2, _⟩ := chk_inv h
  have a := (wrd_at h1 h2).2.2.2
  have b := (val_okV h hp).2
  show (wrd x.k.toNat ++ 61 :: valS x).length ≤ 95
  rw [List.length_append, List.length_cons]; omega
theorem jtx_len95 {L : List LnP} (h : ∀ x ∈ L, (ltxt x).length ≤ 95) : (jtx L).length ≤ 96 * L.length := by
  induction L with
  | nil => exact Nat.le_refl _
  | cons x xs ih =>
    have hx := h x (by simp)
    have ih := ih fun y hy => h y (List.mem_cons_of_mem _ hy)
    cases xs with
    | nil => unfold jtx; rw [List.map_cons, List.map_nil, Lib.join_one]; simp only [List.length_cons, List.length_nil]; omega
    | cons y ys =>
      unfold jtx at ih ⊢
      rw [List.map_cons, List.map_cons, join_cons2, List.length_append, List.length_append]
      rw [List.map_cons] at ih
      simp only [List.length_cons, List.length_nil] at ih ⊢
      omega
theorem prR_ok {M : List LnP} (h : ∀ x ∈ M, (readS x).2 = 0) : prR [] 0 M = (M.map rs1, 0, 0) := by
  have key : ∀ (M : List LnP) (acc : List SetS) (i : Nat), (∀ x ∈ M, (readS x).2 = 0) → prR acc i M = (acc ++ M.map rs1, 0, 0) := by
    intro M
    induction M with
    | nil => intro acc i _; simp [prR]
    | cons x xs ih =>
      intro acc i hM
      unfold prR
      rw [if_pos (hM x (by simp)), ih _ _ fun y hy => hM y (List.mem_cons_of_mem _ hy)]
      simp
  exact key M [] 0 h
theorem sets_back {L : List SetS} (hL : ∀ x ∈ L, chkS x = 0 ∧ x.p.length ≤ 32) (hn : L.length ≤ 30) :
    printR L = (jtx (L.map ls1), 0) ∧ parseR (jtx (L.map ls1)) = (L, 0, 0) ∧ (jtx (L.map ls1)).length ≤ 3000 := by
  have hM : ∀ x ∈ L.map ls1, lnC x.1 x.2 = 0 := fun x hx => by
    obtain ⟨y, hy, rfl⟩ := List.mem_map.1 hx
    exact (ls1_back (hL y hy).1 (hL y hy).2).2.1
  have hlen : (jtx (L.map ls1)).length ≤ 3000 := by
    have := jtx_len95 (L := L.map ls1) fun x hx => by
      obtain ⟨y, hy, rfl⟩ := List.mem_map.1 hx
      exact (ls1_back (hL y hy).1 (hL y hy).2).2.2
    rw [List.length_map] at this; omega
  have hb := back_ok (L := L.map ls1) (by rw [List.length_map]; omega) hM hlen
  refine ⟨?_, ?_, hlen⟩
  · unfold printR
    rw [prnE_all fun x hx => congrArg Prod.snd (ls1_is (hL x hx).1), if_pos rfl]
    exact hb.1
  · unfold parseR
    rw [hb.2, if_pos rfl]
    rw [prR_ok fun x hx => by
      obtain ⟨y, hy, rfl⟩ := List.mem_map.1 hx
      exact congrArg Prod.snd (ls1_back (hL y hy).1 (hL y hy).2).1, List.map_map]
    have e : L.map (rs1 ∘ ls1) = L := (List.map_congr_left (g := id) fun x hx => congrArg Prod.fst (ls1_back (hL x hx).1 (hL x hx).2).1).trans (List.map_id _)
    rw [e]
theorem val_N {s : SetS} (h : s.k = 2 ∨ s.k = 8) : valS s = itoa s.n := by unfold valS; rw [if_pos (isN_iff.2 h)]
theorem val_T {s : SetS} (h : s.k = 3 ∨ s.k = 5 ∨ s.k = 9) : valS s = tru := by unfold valS; rw [if_neg (by rw [isN_no (by omega) (by omega)]; decide), if_pos h]
theorem val_P {s : SetS} (h : s.k = 10) : valS s = netT s.p := by unfold valS; rw [if_neg (by rw [isN_no (by omega) (by omega)]; decide), if_neg (by omega), if_pos h]
theorem val_Z {s : SetS} (h : s.k = 6) (ht : s.t = []) : valS s = zs64 := by unfold valS; rw [if_neg (by rw [isN_no (by omega) (by omega)]; decide), if_neg (by omega), if_neg (by omega), if_pos ⟨h, ht⟩]
theorem val_S {s : SetS} (h : s.k ≠ 2 ∧ s.k ≠ 8 ∧ s.k ≠ 3 ∧ s.k ≠ 5 ∧ s.k ≠ 9 ∧ s.k ≠ 10) (h6 : ¬ (s.k = 6 ∧ s.t = [])) : valS s = s.t := by
  unfold valS; rw [if_neg (by rw [isN_no (by omega) (by omega)]; decide), if_neg (by omega), if_neg (by omega), if_neg h6]
set_option maxRecDepth 100000 in
set_option maxHeartbeats 4000000 in
theorem cf_setEqO {L : List SetS} (hn : L.length ≤ 1100000) : Cf Tryd.prog 39 [] [setsE L, setsE L] [] (.b true) := by
  refine Cf.introR tabT {} (DR _ _ _ tabT {}) (by kernel_rfl) tab_ok Tryd.func39 Tryd.ntmps39 rfl rfl (DR_ok tab_ok (by kernel_rfl)) (by kernel_rfl) ?_
  refine ⟨fun h1 => ?_, fun h1 => ?_⟩
  · skip
    (simp only [Int.reduceToNat, UInt8.reduceOfNat] at h1)
    have c1 := h1
    (simp only [bsX] at c1)
    exact absurd h1 (by simp)
  · skip
    (simp only [Int.reduceToNat, UInt8.reduceOfNat] at h1)
    have c1 := h1
    (simp only [bsX] at c1)
    refine ⟨Nat, fun i => ⟨[(0, setsE L), (1, setsE L), (12, .i (L.length : Int)), (13, .i (i : Int))], []⟩, fun i => i ≤ L.length, fun i => L.length - i, 0, by omega, ?_, fun i hx1 => ?_⟩
    · skip
      repeat (refine Ob.mk ?_ ?_; (focus (first | (exact Eq.refl _) | (intro hg; ((intro hq; ((simp_all; done))))))))
      trivial
    refine ⟨fun h2 => ?_, fun h2 => ?_⟩
    · skip
      have c2 := h2
      (simp only [bsX] at c2)
      refine ⟨[0, 0, 3, 7, 0, 0, 48, 112, 255], by kernel_rfl, ?_⟩
      repeat (refine Ob.mk ?_ ?_; focus (omega))
      refine ⟨fun h3 => ?_, fun h3 => ?_⟩
      · skip
        (simp only [Int.reduceToNat, UInt8.reduceOfNat] at h3)
        have c3 := h3
        (simp only [bsX] at c3)
        exact absurd h3 (by simp)
      · skip
        (simp only [Int.reduceToNat, UInt8.reduceOfNat] at h3)
        have c3 := h3
        (simp only [bsX] at c3)
        repeat (refine Ob.mk ?_ ?_; focus (omega))
        refine ⟨i + 1, (by omega), (by (simp only [SrcE.len, Nat.zero_add, List.length_append, List.length_cons, List.length_nil]; omega)), ?_⟩
        repeat (refine Ob.mk ?_ ?_; (focus (first | (exact Eq.refl _) | (intro hg; ((intro hq; ((simp_all; done))))))))
        trivial
    · skip
      have c2 := h2
      (simp only [bsX] at c2)
      repeat (refine Ob.mk ?_ ?_; focus ((exact Eq.refl _)))
      trivial
abbrev wrds : List (List UInt8) := [[], wrd 1, wrd 2, wrd 3, wrd 4, wrd 5, wrd 6, wrd 7, wrd 8, wrd 9, wrd 10]
theorem wrds_at : ∀ k : Fin 11, wrds.getD k.val [] = wrd k.val := by decide
theorem wl0 (k : Nat) : (wrds.getD k []).length ≤ 30 := by
  by_cases h : k < 11
  · have : ∀ k : Fin 11, (wrds.getD k.val []).length ≤ 30 := by decide
    exact this ⟨k, h⟩
  · rw [List.getD_eq_getElem?_getD, List.getElem?_eq_none (by show 11 ≤ k; omega)]; exact Nat.zero_le _
theorem wl1 (k : Nat) : (wrds.getD k []).length + ([61] : List UInt8).length ≤ 9223372036854775807 := by
  have := wl0 k; rw [List.length_singleton]; omega
theorem wl2 (k : Nat) {v : List UInt8} (h : v.length ≤ 64) : (wrds.getD k [] ++ [61]).length + v.length ≤ 9223372036854775807 := by
  have := wl0 k; rw [List.length_append, List.length_singleton]; omega
set_option maxRecDepth 100000 in
set_option maxHeartbeats 4000000 in
theorem cf_keepText {L : List SetS} (hL : ∀ x ∈ L, chkS x = 0 ∧ x.p.length ≤ 32) (hn : L.length ≤ 30) : Cf Tryd.prog 40 [] [setsE L] [] (.s (jtx (L.map ls1))) := by
  have hJl := (sets_back hL hn).2.2
  have hmm : (L.map ls1).map ltxt = L.map fun x => ltxt (ls1 x) := List.map_map ..
  have hJ := cf_Join (L := L.map fun x => ltxt (ls1 x)) (sep := [10]) (by rw [List.length_map]; omega) (by rw [← hmm]; show (jtx (L.map ls1)).length ≤ _; omega)
  rw [show Lib.join (L.map fun x => ltxt (ls1 x)) [10] = jtx (L.map ls1) by rw [← hmm]; rfl] at hJ
  refine Cf.introR tabT {nl := [(3, 9, 1)], sel := [17]} D0 (by kernel_rfl) tab_ok Tryd.func40 Tryd.ntmps40 rfl rfl (D0_ok) (by kernel_rfl) ?_
  refine ⟨Nat, fun i => ⟨[(3, .osl 1003 i), (8, setsE L), (9, .i (L.length : Int)), (10, .i (i : Int))], [(1003, .rz i 1 (fun a b => .s (ltxt (ls1 (L.getD a set0)))) 9 0)]⟩, fun i => i ≤ L.length, fun i => L.length - i, 0, by omega, ?_, fun i hx1 => ?_⟩
  · skip
    repeat (refine Ob.mk ?_ ?_; (focus (first | (exact Eq.refl _) | omega | (intro hg; ((intro hq; ((simp_all; done))))))))
    trivial
  refine ⟨fun h1 => ?_, fun h1 => ?_⟩
  · skip
    have c1 := h1
    (simp only [bsX] at c1)
    have hi : i < L.length := by omega
    have hs : L.getD ((i : Int)).toNat set0 = L.getD i set0 := by rw [Int.toNat_natCast]
    have hok := hL _ (getD_in (d := set0) hi)
    rw [← hs] at hok
    have hci := chk_inv hok.1
    have hk1 := hci.1
    have hk2 := hci.2.1
    have hls : ls1 (L.getD i set0) = (wrd (L.getD ((i : Int)).toNat set0).k.toNat, valS (L.getD ((i : Int)).toNat set0)) := by rw [← hs]; exact congrArg Prod.fst (ls1_is hok.1)
    have hw := wrds_at ⟨(L.getD ((i : Int)).toNat set0).k.toNat, by omega⟩
    have hvl := (val_okV hok.1 hok.2).2
    repeat (refine Ob.mk ?_ ?_; focus (first | assumption | omega))
    refine ⟨fun h2 => ?_, fun h2 => ?_⟩
    · skip
      have c2 := h2
      (simp only [bsX] at c2)
      refine ⟨fun h3 => ?_, fun h3 => ?_⟩
      · skip
        have c3 := h3
        (simp only [bsX] at c3)
        have hv := val_N (s := L.getD ((i : Int)).toNat set0) (by omega)
        have hnn := hci.2.2.2.2.2.2.2.2 (isN_iff.2 (by omega))
        refine ⟨_, _, _, _, (cf_Itoa (n := (L.getD ((i : Int)).toNat set0).n) (by omega) (by omega)), ?_⟩
        repeat (refine Ob.mk ?_ ?_; (focus (first | (exact wl1 _) | (exact wl2 _ (by rw [← hv]; exact hvl)) | (exact Eq.refl _) | omega | (simp only [SrcE.len, Nat.zero_add, List.length_append, List.length_cons, List.length_nil]; omega))))
        refine ⟨i + 1, (by assumption), (by (simp only [SrcE.len, Nat.zero_add, List.length_append, List.length_cons, List.length_nil]; omega)), ?_⟩
        repeat (refine Ob.mk ?_ ?_; (focus (first | (exact ln_snoc (fun _ _ _ _ => rfl) (fun j hj => by (obtain rfl : j = 0 := by omega); (show EV.s (wrds.getD (L.getD ((i : Int)).toNat set0).k.toNat [] ++ [61] ++ _) = EV.s ((ls1 (L.getD i set0)).1 ++ 61 :: (ls1 (L.getD i set0)).2)); rw [hls, hw, hv, List.append_assoc]; rfl)) | (exact Eq.refl _) | (exact Nat.le_of_ble_eq_true rfl) | (intro hg; ((intro hq; ((simp_all; done))))))))
        trivial
      · skip
        have c3 := h3
        (simp only [bsX] at c3)
        refine ⟨fun h4 => ?_, fun h4 => ?_⟩
        · skip
          have c4 := h4
          (simp only [bsX] at c4)
          refine ⟨fun h5 => ?_, fun h5 => ?_⟩
          · skip
            have c5 := h5
            (simp only [bsX] at c5)
            have hv := val_T (s := L.getD ((i : Int)).toNat set0) (by omega)
            repeat (refine Ob.mk ?_ ?_; focus (first | (exact wl1 _) | (exact Eq.refl _) | omega))
            refine ⟨i + 1, (by assumption), (by omega), ?_⟩
            repeat (refine Ob.mk ?_ ?_; (focus (first | (exact ln_snoc (fun _ _ _ _ => rfl) (fun j hj => by (obtain rfl : j = 0 := by omega); (show EV.s (wrds.getD (L.getD ((i : Int)).toNat set0).k.toNat [] ++ [61] ++ _) = EV.s ((ls1 (L.getD i set0)).1 ++ 61 :: (ls1 (L.getD i set0)).2)); rw [hls, hw, hv, List.append_assoc]; rfl)) | (exact Eq.refl _) | omega)))
            trivial
          · skip
            have c5 := h5
            (simp only [bsX] at c5)
            refine ⟨fun h6 => ?_, fun h6 => ?_⟩
            · skip
              have c6 := h6
              (simp only [bsX] at c6)
              have hv := val_P (s := L.getD ((i : Int)).toNat set0) (by omega)
              refine ⟨_, _, _, _, (cf_NetTextP hok.2), ?_⟩
              repeat (refine Ob.mk ?_ ?_; (focus (first | (exact wl1 _) | (exact wl2 _ (by rw [← hv]; exact hvl)) | (exact Eq.refl _) | omega)))
              refine ⟨i + 1, (by assumption), (by omega), ?_⟩
              repeat (refine Ob.mk ?_ ?_; (focus (first | (exact ln_snoc (fun _ _ _ _ => rfl) (fun j hj => by (obtain rfl : j = 0 := by omega); (show EV.s (wrds.getD (L.getD ((i : Int)).toNat set0).k.toNat [] ++ [61] ++ _) = EV.s ((ls1 (L.getD i set0)).1 ++ 61 :: (ls1 (L.getD i set0)).2)); rw [hls, hw, hv, List.append_assoc]; rfl)) | (exact Eq.refl _) | omega)))
              trivial
            · skip
              have c6 := h6
              (simp only [bsX] at c6)
              refine ⟨fun h7 => ?_, fun h7 => ?_⟩
              · skip
                have c7 := h7
                (simp only [bsX] at c7)
                refine ⟨fun h8 => ?_, fun h8 => ?_⟩
                · skip
                  have c8 := h8
                  (simp only [bsX] at c8)
                  have hv := val_Z (s := L.getD ((i : Int)).toNat set0) (by omega) (by simpa using h8)
                  refine ⟨_, _, _, _, cf_zs, ?_⟩
                  repeat (refine Ob.mk ?_ ?_; (focus (first | (exact wl1 _) | (exact wl2 _ (by rw [← hv]; exact hvl)) | (exact Eq.refl _) | omega)))
                  refine ⟨i + 1, (by assumption), (by omega), ?_⟩
                  repeat (refine Ob.mk ?_ ?_; (focus (first | (exact ln_snoc (fun _ _ _ _ => rfl) (fun j hj => by (obtain rfl : j = 0 := by omega); (show EV.s (wrds.getD (L.getD ((i : Int)).toNat set0).k.toNat [] ++ [61] ++ _) = EV.s ((ls1 (L.getD i set0)).1 ++ 61 :: (ls1 (L.getD i set0)).2)); rw [hls, hw, hv, List.append_assoc]; rfl)) | (exact Eq.refl _) | omega)))
                  trivial
                · skip
                  have c8 := h8
                  (simp only [bsX] at c8)
                  have ht : ¬ (L.getD ((i : Int)).toNat set0).t = [] := by simpa using h8
                  have hv := val_S (s := L.getD ((i : Int)).toNat set0) (by omega) (fun k => ht k.2)
                  repeat (refine Ob.mk ?_ ?_; (focus (first | (exact wl1 _) | (exact wl2 _ (by rw [← hv]; exact hvl)) | (exact Eq.refl _) | omega)))
                  refine ⟨i + 1, (by assumption), (by omega), ?_⟩
                  repeat (refine Ob.mk ?_ ?_; (focus (first | (exact ln_snoc (fun _ _ _ _ => rfl) (fun j hj => by (obtain rfl : j = 0 := by omega); (show EV.s (wrds.getD (L.getD ((i : Int)).toNat set0).k.toNat [] ++ [61] ++ _) = EV.s ((ls1 (L.getD i set0)).1 ++ 61 :: (ls1 (L.getD i set0)).2)); rw [hls, hw, hv, List.append_assoc]; rfl)) | (exact Eq.refl _) | omega)))
                  trivial
              · skip
                have c7 := h7
                (simp only [bsX] at c7)
                have hv := val_S (s := L.getD ((i : Int)).toNat set0) (by omega) (fun k => absurd k.1 (by omega))
                repeat (refine Ob.mk ?_ ?_; (focus (first | (exact wl1 _) | (exact wl2 _ (by rw [← hv]; exact hvl)) | (exact Eq.refl _) | omega)))
                refine ⟨i + 1, (by assumption), (by omega), ?_⟩
                repeat (refine Ob.mk ?_ ?_; (focus (first | (exact ln_snoc (fun _ _ _ _ => rfl) (fun j hj => by (obtain rfl : j = 0 := by omega); (show EV.s (wrds.getD (L.getD ((i : Int)).toNat set0).k.toNat [] ++ [61] ++ _) = EV.s ((ls1 (L.getD i set0)).1 ++ 61 :: (ls1 (L.getD i set0)).2)); rw [hls, hw, hv, List.append_assoc]; rfl)) | (exact Eq.refl _) | omega)))
                trivial
        · skip
          have c4 := h4
          (simp only [bsX] at c4)
          refine ⟨fun h9 => ?_, fun h9 => ?_⟩
          · skip
            have c9 := h9
            (simp only [bsX] at c9)
            refine ⟨fun h10 => ?_, fun h10 => ?_⟩
            · skip
              have c10 := h10
              (simp only [bsX] at c10)
              have hv := val_T (s := L.getD ((i : Int)).toNat set0) (by omega)
              repeat (refine Ob.mk ?_ ?_; focus (first | (exact wl1 _) | (exact Eq.refl _) | omega))
              refine ⟨i + 1, (by assumption), (by omega), ?_⟩
              repeat (refine Ob.mk ?_ ?_; (focus (first | (exact ln_snoc (fun _ _ _ _ => rfl) (fun j hj => by (obtain rfl : j = 0 := by omega); (show EV.s (wrds.getD (L.getD ((i : Int)).toNat set0).k.toNat [] ++ [61] ++ _) = EV.s ((ls1 (L.getD i set0)).1 ++ 61 :: (ls1 (L.getD i set0)).2)); rw [hls, hw, hv, List.append_assoc]; rfl)) | (exact Eq.refl _) | omega)))
              trivial
            · skip
              have c10 := h10
              (simp only [bsX] at c10)
              refine ⟨fun h11 => ?_, fun h11 => ?_⟩
              · skip
                have c11 := h11
                (simp only [bsX] at c11)
                have hv := val_P (s := L.getD ((i : Int)).toNat set0) (by omega)
                refine ⟨_, _, _, _, (cf_NetTextP hok.2), ?_⟩
                repeat (refine Ob.mk ?_ ?_; (focus (first | (exact wl1 _) | (exact wl2 _ (by rw [← hv]; exact hvl)) | (exact Eq.refl _) | omega)))
                refine ⟨i + 1, (by assumption), (by omega), ?_⟩
                repeat (refine Ob.mk ?_ ?_; (focus (first | (exact ln_snoc (fun _ _ _ _ => rfl) (fun j hj => by (obtain rfl : j = 0 := by omega); (show EV.s (wrds.getD (L.getD ((i : Int)).toNat set0).k.toNat [] ++ [61] ++ _) = EV.s ((ls1 (L.getD i set0)).1 ++ 61 :: (ls1 (L.getD i set0)).2)); rw [hls, hw, hv, List.append_assoc]; rfl)) | (exact Eq.refl _) | omega)))
                trivial
              · skip
                have c11 := h11
                (simp only [bsX] at c11)
                refine ⟨fun h12 => ?_, fun h12 => ?_⟩
                · skip
                  have c12 := h12
                  (simp only [bsX] at c12)
                  refine ⟨fun h13 => ?_, fun h13 => ?_⟩
                  · skip
                    have c13 := h13
                    (simp only [bsX] at c13)
                    have hv := val_Z (s := L.getD ((i : Int)).toNat set0) (by omega) (by simpa using h13)
                    refine ⟨_, _, _, _, cf_zs, ?_⟩
                    repeat (refine Ob.mk ?_ ?_; (focus (first | (exact wl1 _) | (exact wl2 _ (by rw [← hv]; exact hvl)) | (exact Eq.refl _) | omega)))
                    refine ⟨i + 1, (by assumption), (by omega), ?_⟩
                    repeat (refine Ob.mk ?_ ?_; (focus (first | (exact ln_snoc (fun _ _ _ _ => rfl) (fun j hj => by (obtain rfl : j = 0 := by omega); (show EV.s (wrds.getD (L.getD ((i : Int)).toNat set0).k.toNat [] ++ [61] ++ _) = EV.s ((ls1 (L.getD i set0)).1 ++ 61 :: (ls1 (L.getD i set0)).2)); rw [hls, hw, hv, List.append_assoc]; rfl)) | (exact Eq.refl _) | omega)))
                    trivial
                  · skip
                    have c13 := h13
                    (simp only [bsX] at c13)
                    have ht : ¬ (L.getD ((i : Int)).toNat set0).t = [] := by simpa using h13
                    have hv := val_S (s := L.getD ((i : Int)).toNat set0) (by omega) (fun k => ht k.2)
                    repeat (refine Ob.mk ?_ ?_; (focus (first | (exact wl1 _) | (exact wl2 _ (by rw [← hv]; exact hvl)) | (exact Eq.refl _) | omega)))
                    refine ⟨i + 1, (by assumption), (by omega), ?_⟩
                    repeat (refine Ob.mk ?_ ?_; (focus (first | (exact ln_snoc (fun _ _ _ _ => rfl) (fun j hj => by (obtain rfl : j = 0 := by omega); (show EV.s (wrds.getD (L.getD ((i : Int)).toNat set0).k.toNat [] ++ [61] ++ _) = EV.s ((ls1 (L.getD i set0)).1 ++ 61 :: (ls1 (L.getD i set0)).2)); rw [hls, hw, hv, List.append_assoc]; rfl)) | (exact Eq.refl _) | omega)))
                    trivial
                · skip
                  have c12 := h12
                  (simp only [bsX] at c12)
                  have hv := val_S (s := L.getD ((i : Int)).toNat set0) (by omega) (fun k => absurd k.1 (by omega))
                  repeat (refine Ob.mk ?_ ?_; (focus (first | (exact wl1 _) | (exact wl2 _ (by rw [← hv]; exact hvl)) | (exact Eq.refl _) | omega)))
                  refine ⟨i + 1, (by assumption), (by omega), ?_⟩
                  repeat (refine Ob.mk ?_ ?_; (focus (first | (exact ln_snoc (fun _ _ _ _ => rfl) (fun j hj => by (obtain rfl : j = 0 := by omega); (show EV.s (wrds.getD (L.getD ((i : Int)).toNat set0).k.toNat [] ++ [61] ++ _) = EV.s ((ls1 (L.getD i set0)).1 ++ 61 :: (ls1 (L.getD i set0)).2)); rw [hls, hw, hv, List.append_assoc]; rfl)) | (exact Eq.refl _) | omega)))
                  trivial
          · skip
            have c9 := h9
            (simp only [bsX] at c9)
            refine ⟨fun h14 => ?_, fun h14 => ?_⟩
            · skip
              have c14 := h14
              (simp only [bsX] at c14)
              have hv := val_T (s := L.getD ((i : Int)).toNat set0) (by omega)
              repeat (refine Ob.mk ?_ ?_; focus (first | (exact wl1 _) | (exact Eq.refl _) | omega))
              refine ⟨i + 1, (by assumption), (by omega), ?_⟩
              repeat (refine Ob.mk ?_ ?_; (focus (first | (exact ln_snoc (fun _ _ _ _ => rfl) (fun j hj => by (obtain rfl : j = 0 := by omega); (show EV.s (wrds.getD (L.getD ((i : Int)).toNat set0).k.toNat [] ++ [61] ++ _) = EV.s ((ls1 (L.getD i set0)).1 ++ 61 :: (ls1 (L.getD i set0)).2)); rw [hls, hw, hv, List.append_assoc]; rfl)) | (exact Eq.refl _) | omega)))
              trivial
            · skip
              have c14 := h14
              (simp only [bsX] at c14)
              refine ⟨fun h15 => ?_, fun h15 => ?_⟩
              · skip
                have c15 := h15
                (simp only [bsX] at c15)
                have hv := val_P (s := L.getD ((i : Int)).toNat set0) (by omega)
                refine ⟨_, _, _, _, (cf_NetTextP hok.2), ?_⟩
                repeat (refine Ob.mk ?_ ?_; (focus (first | (exact wl1 _) | (exact wl2 _ (by rw [← hv]; exact hvl)) | (exact Eq.refl _) | omega)))
                refine ⟨i + 1, (by assumption), (by omega), ?_⟩
                repeat (refine Ob.mk ?_ ?_; (focus (first | (exact ln_snoc (fun _ _ _ _ => rfl) (fun j hj => by (obtain rfl : j = 0 := by omega); (show EV.s (wrds.getD (L.getD ((i : Int)).toNat set0).k.toNat [] ++ [61] ++ _) = EV.s ((ls1 (L.getD i set0)).1 ++ 61 :: (ls1 (L.getD i set0)).2)); rw [hls, hw, hv, List.append_assoc]; rfl)) | (exact Eq.refl _) | omega)))
                trivial
              · skip
                have c15 := h15
                (simp only [bsX] at c15)
                refine ⟨fun h16 => ?_, fun h16 => ?_⟩
                · skip
                  have c16 := h16
                  (simp only [bsX] at c16)
                  refine ⟨fun h17 => ?_, fun h17 => ?_⟩
                  · skip
                    have c17 := h17
                    (simp only [bsX] at c17)
                    have hv := val_Z (s := L.getD ((i : Int)).toNat set0) (by omega) (by simpa using h17)
                    refine ⟨_, _, _, _, cf_zs, ?_⟩
                    repeat (refine Ob.mk ?_ ?_; (focus (first | (exact wl1 _) | (exact wl2 _ (by rw [← hv]; exact hvl)) | (exact Eq.refl _) | omega)))
                    refine ⟨i + 1, (by assumption), (by omega), ?_⟩
                    repeat (refine Ob.mk ?_ ?_; (focus (first | (exact ln_snoc (fun _ _ _ _ => rfl) (fun j hj => by (obtain rfl : j = 0 := by omega); (show EV.s (wrds.getD (L.getD ((i : Int)).toNat set0).k.toNat [] ++ [61] ++ _) = EV.s ((ls1 (L.getD i set0)).1 ++ 61 :: (ls1 (L.getD i set0)).2)); rw [hls, hw, hv, List.append_assoc]; rfl)) | (exact Eq.refl _) | omega)))
                    trivial
                  · skip
                    have c17 := h17
                    (simp only [bsX] at c17)
                    have ht : ¬ (L.getD ((i : Int)).toNat set0).t = [] := by simpa using h17
                    have hv := val_S (s := L.getD ((i : Int)).toNat set0) (by omega) (fun k => ht k.2)
                    repeat (refine Ob.mk ?_ ?_; (focus (first | (exact wl1 _) | (exact wl2 _ (by rw [← hv]; exact hvl)) | (exact Eq.refl _) | omega)))
                    refine ⟨i + 1, (by assumption), (by omega), ?_⟩
                    repeat (refine Ob.mk ?_ ?_; (focus (first | (exact ln_snoc (fun _ _ _ _ => rfl) (fun j hj => by (obtain rfl : j = 0 := by omega); (show EV.s (wrds.getD (L.getD ((i : Int)).toNat set0).k.toNat [] ++ [61] ++ _) = EV.s ((ls1 (L.getD i set0)).1 ++ 61 :: (ls1 (L.getD i set0)).2)); rw [hls, hw, hv, List.append_assoc]; rfl)) | (exact Eq.refl _) | omega)))
                    trivial
                · skip
                  have c16 := h16
                  (simp only [bsX] at c16)
                  have hv := val_S (s := L.getD ((i : Int)).toNat set0) (by omega) (fun k => absurd k.1 (by omega))
                  repeat (refine Ob.mk ?_ ?_; (focus (first | (exact wl1 _) | (exact wl2 _ (by rw [← hv]; exact hvl)) | (exact Eq.refl _) | omega)))
                  refine ⟨i + 1, (by assumption), (by omega), ?_⟩
                  repeat (refine Ob.mk ?_ ?_; (focus (first | (exact ln_snoc (fun _ _ _ _ => rfl) (fun j hj => by (obtain rfl : j = 0 := by omega); (show EV.s (wrds.getD (L.getD ((i : Int)).toNat set0).k.toNat [] ++ [61] ++ _) = EV.s ((ls1 (L.getD i set0)).1 ++ 61 :: (ls1 (L.getD i set0)).2)); rw [hls, hw, hv, List.append_assoc]; rfl)) | (exact Eq.refl _) | omega)))
                  trivial
    · skip
      have c2 := h2
      (simp only [bsX] at c2)
      refine ⟨fun h18 => ?_, fun h18 => ?_⟩
      · skip
        have c18 := h18
        (simp only [bsX] at c18)
        have hv := val_N (s := L.getD ((i : Int)).toNat set0) (by omega)
        have hnn := hci.2.2.2.2.2.2.2.2 (isN_iff.2 (by omega))
        refine ⟨_, _, _, _, (cf_Itoa (n := (L.getD ((i : Int)).toNat set0).n) (by omega) (by omega)), ?_⟩
        repeat (refine Ob.mk ?_ ?_; (focus (first | (exact wl1 _) | (exact wl2 _ (by rw [← hv]; exact hvl)) | (exact Eq.refl _) | omega | (simp only [SrcE.len, Nat.zero_add, List.length_append, List.length_cons, List.length_nil]; omega))))
        refine ⟨i + 1, (by assumption), (by (simp only [SrcE.len, Nat.zero_add, List.length_append, List.length_cons, List.length_nil]; omega)), ?_⟩
        repeat (refine Ob.mk ?_ ?_; (focus (first | (exact ln_snoc (fun _ _ _ _ => rfl) (fun j hj => by (obtain rfl : j = 0 := by omega); (show EV.s (wrds.getD (L.getD ((i : Int)).toNat set0).k.toNat [] ++ [61] ++ _) = EV.s ((ls1 (L.getD i set0)).1 ++ 61 :: (ls1 (L.getD i set0)).2)); rw [hls, hw, hv, List.append_assoc]; rfl)) | (exact Eq.refl _) | (exact Nat.le_of_ble_eq_true rfl) | (intro hg; ((intro hq; ((simp_all; done))))))))
        trivial
      · skip
        have c18 := h18
        (simp only [bsX] at c18)
        refine ⟨fun h19 => ?_, fun h19 => ?_⟩
        · skip
          have c19 := h19
          (simp only [bsX] at c19)
          refine ⟨fun h20 => ?_, fun h20 => ?_⟩
          · skip
            have c20 := h20
            (simp only [bsX] at c20)
            have hv := val_T (s := L.getD ((i : Int)).toNat set0) (by omega)
            repeat (refine Ob.mk ?_ ?_; (focus (first | (exact wl1 _) | (exact Eq.refl _) | omega | (simp only [SrcE.len, Nat.zero_add, List.length_append, List.length_cons, List.length_nil]; omega) | (simp_all; done))))
            refine ⟨i + 1, (by assumption), (by (simp only [SrcE.len, Nat.zero_add, List.length_append, List.length_cons, List.length_nil]; omega)), ?_⟩
            repeat (refine Ob.mk ?_ ?_; (focus (first | (exact ln_snoc (fun _ _ _ _ => rfl) (fun j hj => by (obtain rfl : j = 0 := by omega); (show EV.s (wrds.getD (L.getD ((i : Int)).toNat set0).k.toNat [] ++ [61] ++ _) = EV.s ((ls1 (L.getD i set0)).1 ++ 61 :: (ls1 (L.getD i set0)).2)); rw [hls, hw, hv, List.append_assoc]; rfl)) | (exact Eq.refl _) | (exact Nat.le_of_ble_eq_true rfl) | (intro hg; ((intro hq; ((simp_all; done))))))))
            trivial
          · skip
            have c20 := h20
            (simp only [bsX] at c20)
            refine ⟨fun h21 => ?_, fun h21 => ?_⟩
            · skip
              have c21 := h21
              (simp only [bsX] at c21)
              have hv := val_P (s := L.getD ((i : Int)).toNat set0) (by omega)
              refine ⟨_, _, _, _, (cf_NetTextP hok.2), ?_⟩
              repeat (refine Ob.mk ?_ ?_; (focus (first | (exact wl1 _) | (exact wl2 _ (by rw [← hv]; exact hvl)) | (exact Eq.refl _) | omega)))
              refine ⟨i + 1, (by assumption), (by omega), ?_⟩
              repeat (refine Ob.mk ?_ ?_; (focus (first | (exact ln_snoc (fun _ _ _ _ => rfl) (fun j hj => by (obtain rfl : j = 0 := by omega); (show EV.s (wrds.getD (L.getD ((i : Int)).toNat set0).k.toNat [] ++ [61] ++ _) = EV.s ((ls1 (L.getD i set0)).1 ++ 61 :: (ls1 (L.getD i set0)).2)); rw [hls, hw, hv, List.append_assoc]; rfl)) | (exact Eq.refl _) | omega)))
              trivial
            · skip
              have c21 := h21
              (simp only [bsX] at c21)
              refine ⟨fun h22 => ?_, fun h22 => ?_⟩
              · skip
                have c22 := h22
                (simp only [bsX] at c22)
                refine ⟨fun h23 => ?_, fun h23 => ?_⟩
                · skip
                  have c23 := h23
                  (simp only [bsX] at c23)
                  have hv := val_Z (s := L.getD ((i : Int)).toNat set0) (by omega) (by simpa using h23)
                  refine ⟨_, _, _, _, cf_zs, ?_⟩
                  repeat (refine Ob.mk ?_ ?_; (focus (first | (exact wl1 _) | (exact wl2 _ (by rw [← hv]; exact hvl)) | (exact Eq.refl _) | omega)))
                  refine ⟨i + 1, (by assumption), (by omega), ?_⟩
                  repeat (refine Ob.mk ?_ ?_; (focus (first | (exact ln_snoc (fun _ _ _ _ => rfl) (fun j hj => by (obtain rfl : j = 0 := by omega); (show EV.s (wrds.getD (L.getD ((i : Int)).toNat set0).k.toNat [] ++ [61] ++ _) = EV.s ((ls1 (L.getD i set0)).1 ++ 61 :: (ls1 (L.getD i set0)).2)); rw [hls, hw, hv, List.append_assoc]; rfl)) | (exact Eq.refl _) | omega)))
                  trivial
                · skip
                  have c23 := h23
                  (simp only [bsX] at c23)
                  have ht : ¬ (L.getD ((i : Int)).toNat set0).t = [] := by simpa using h23
                  have hv := val_S (s := L.getD ((i : Int)).toNat set0) (by omega) (fun k => ht k.2)
                  repeat (refine Ob.mk ?_ ?_; (focus (first | (exact wl1 _) | (exact wl2 _ (by rw [← hv]; exact hvl)) | (exact Eq.refl _) | omega)))
                  refine ⟨i + 1, (by assumption), (by omega), ?_⟩
                  repeat (refine Ob.mk ?_ ?_; (focus (first | (exact ln_snoc (fun _ _ _ _ => rfl) (fun j hj => by (obtain rfl : j = 0 := by omega); (show EV.s (wrds.getD (L.getD ((i : Int)).toNat set0).k.toNat [] ++ [61] ++ _) = EV.s ((ls1 (L.getD i set0)).1 ++ 61 :: (ls1 (L.getD i set0)).2)); rw [hls, hw, hv, List.append_assoc]; rfl)) | (exact Eq.refl _) | omega)))
                  trivial
              · skip
                have c22 := h22
                (simp only [bsX] at c22)
                have hv := val_S (s := L.getD ((i : Int)).toNat set0) (by omega) (fun k => absurd k.1 (by omega))
                repeat (refine Ob.mk ?_ ?_; (focus (first | (exact wl1 _) | (exact wl2 _ (by rw [← hv]; exact hvl)) | (exact Eq.refl _) | omega)))
                refine ⟨i + 1, (by assumption), (by omega), ?_⟩
                repeat (refine Ob.mk ?_ ?_; (focus (first | (exact ln_snoc (fun _ _ _ _ => rfl) (fun j hj => by (obtain rfl : j = 0 := by omega); (show EV.s (wrds.getD (L.getD ((i : Int)).toNat set0).k.toNat [] ++ [61] ++ _) = EV.s ((ls1 (L.getD i set0)).1 ++ 61 :: (ls1 (L.getD i set0)).2)); rw [hls, hw, hv, List.append_assoc]; rfl)) | (exact Eq.refl _) | omega)))
                trivial
        · skip
          have c19 := h19
          (simp only [bsX] at c19)
          refine ⟨fun h24 => ?_, fun h24 => ?_⟩
          · skip
            have c24 := h24
            (simp only [bsX] at c24)
            refine ⟨fun h25 => ?_, fun h25 => ?_⟩
            · skip
              have c25 := h25
              (simp only [bsX] at c25)
              have hv := val_T (s := L.getD ((i : Int)).toNat set0) (by omega)
              repeat (refine Ob.mk ?_ ?_; (focus (first | (exact wl1 _) | (exact Eq.refl _) | omega | (simp only [SrcE.len, Nat.zero_add, List.length_append, List.length_cons, List.length_nil]; omega) | (simp_all; done))))
              refine ⟨i + 1, (by assumption), (by (simp only [SrcE.len, Nat.zero_add, List.length_append, List.length_cons, List.length_nil]; omega)), ?_⟩
              repeat (refine Ob.mk ?_ ?_; (focus (first | (exact ln_snoc (fun _ _ _ _ => rfl) (fun j hj => by (obtain rfl : j = 0 := by omega); (show EV.s (wrds.getD (L.getD ((i : Int)).toNat set0).k.toNat [] ++ [61] ++ _) = EV.s ((ls1 (L.getD i set0)).1 ++ 61 :: (ls1 (L.getD i set0)).2)); rw [hls, hw, hv, List.append_assoc]; rfl)) | (exact Eq.refl _) | (exact Nat.le_of_ble_eq_true rfl) | (intro hg; ((intro hq; ((simp_all; done))))))))
              trivial
            · skip
              have c25 := h25
              (simp only [bsX] at c25)
              refine ⟨fun h26 => ?_, fun h26 => ?_⟩
              · skip
                have c26 := h26
                (simp only [bsX] at c26)
                have hv := val_P (s := L.getD ((i : Int)).toNat set0) (by omega)
                refine ⟨_, _, _, _, (cf_NetTextP hok.2), ?_⟩
                repeat (refine Ob.mk ?_ ?_; (focus (first | (exact wl1 _) | (exact wl2 _ (by rw [← hv]; exact hvl)) | (exact Eq.refl _) | omega)))
                refine ⟨i + 1, (by assumption), (by omega), ?_⟩
                repeat (refine Ob.mk ?_ ?_; (focus (first | (exact ln_snoc (fun _ _ _ _ => rfl) (fun j hj => by (obtain rfl : j = 0 := by omega); (show EV.s (wrds.getD (L.getD ((i : Int)).toNat set0).k.toNat [] ++ [61] ++ _) = EV.s ((ls1 (L.getD i set0)).1 ++ 61 :: (ls1 (L.getD i set0)).2)); rw [hls, hw, hv, List.append_assoc]; rfl)) | (exact Eq.refl _) | omega)))
                trivial
              · skip
                have c26 := h26
                (simp only [bsX] at c26)
                refine ⟨fun h27 => ?_, fun h27 => ?_⟩
                · skip
                  have c27 := h27
                  (simp only [bsX] at c27)
                  refine ⟨fun h28 => ?_, fun h28 => ?_⟩
                  · skip
                    have c28 := h28
                    (simp only [bsX] at c28)
                    have hv := val_Z (s := L.getD ((i : Int)).toNat set0) (by omega) (by simpa using h28)
                    refine ⟨_, _, _, _, cf_zs, ?_⟩
                    repeat (refine Ob.mk ?_ ?_; (focus (first | (exact wl1 _) | (exact wl2 _ (by rw [← hv]; exact hvl)) | (exact Eq.refl _) | omega)))
                    refine ⟨i + 1, (by assumption), (by omega), ?_⟩
                    repeat (refine Ob.mk ?_ ?_; (focus (first | (exact ln_snoc (fun _ _ _ _ => rfl) (fun j hj => by (obtain rfl : j = 0 := by omega); (show EV.s (wrds.getD (L.getD ((i : Int)).toNat set0).k.toNat [] ++ [61] ++ _) = EV.s ((ls1 (L.getD i set0)).1 ++ 61 :: (ls1 (L.getD i set0)).2)); rw [hls, hw, hv, List.append_assoc]; rfl)) | (exact Eq.refl _) | omega)))
                    trivial
                  · skip
                    have c28 := h28
                    (simp only [bsX] at c28)
                    have ht : ¬ (L.getD ((i : Int)).toNat set0).t = [] := by simpa using h28
                    have hv := val_S (s := L.getD ((i : Int)).toNat set0) (by omega) (fun k => ht k.2)
                    repeat (refine Ob.mk ?_ ?_; (focus (first | (exact wl1 _) | (exact wl2 _ (by rw [← hv]; exact hvl)) | (exact Eq.refl _) | omega)))
                    refine ⟨i + 1, (by assumption), (by omega), ?_⟩
                    repeat (refine Ob.mk ?_ ?_; (focus (first | (exact ln_snoc (fun _ _ _ _ => rfl) (fun j hj => by (obtain rfl : j = 0 := by omega); (show EV.s (wrds.getD (L.getD ((i : Int)).toNat set0).k.toNat [] ++ [61] ++ _) = EV.s ((ls1 (L.getD i set0)).1 ++ 61 :: (ls1 (L.getD i set0)).2)); rw [hls, hw, hv, List.append_assoc]; rfl)) | (exact Eq.refl _) | omega)))
                    trivial
                · skip
                  have c27 := h27
                  (simp only [bsX] at c27)
                  have hv := val_S (s := L.getD ((i : Int)).toNat set0) (by omega) (fun k => absurd k.1 (by omega))
                  repeat (refine Ob.mk ?_ ?_; (focus (first | (exact wl1 _) | (exact wl2 _ (by rw [← hv]; exact hvl)) | (exact Eq.refl _) | omega)))
                  refine ⟨i + 1, (by assumption), (by omega), ?_⟩
                  repeat (refine Ob.mk ?_ ?_; (focus (first | (exact ln_snoc (fun _ _ _ _ => rfl) (fun j hj => by (obtain rfl : j = 0 := by omega); (show EV.s (wrds.getD (L.getD ((i : Int)).toNat set0).k.toNat [] ++ [61] ++ _) = EV.s ((ls1 (L.getD i set0)).1 ++ 61 :: (ls1 (L.getD i set0)).2)); rw [hls, hw, hv, List.append_assoc]; rfl)) | (exact Eq.refl _) | omega)))
                  trivial
          · skip
            have c24 := h24
            (simp only [bsX] at c24)
            refine ⟨fun h29 => ?_, fun h29 => ?_⟩
            · skip
              have c29 := h29
              (simp only [bsX] at c29)
              have hv := val_T (s := L.getD ((i : Int)).toNat set0) (by omega)
              repeat (refine Ob.mk ?_ ?_; (focus (first | (exact wl1 _) | (exact Eq.refl _) | omega | (simp only [SrcE.len, Nat.zero_add, List.length_append, List.length_cons, List.length_nil]; omega) | (simp_all; done))))
              refine ⟨i + 1, (by assumption), (by (simp only [SrcE.len, Nat.zero_add, List.length_append, List.length_cons, List.length_nil]; omega)), ?_⟩
              repeat (refine Ob.mk ?_ ?_; (focus (first | (exact ln_snoc (fun _ _ _ _ => rfl) (fun j hj => by (obtain rfl : j = 0 := by omega); (show EV.s (wrds.getD (L.getD ((i : Int)).toNat set0).k.toNat [] ++ [61] ++ _) = EV.s ((ls1 (L.getD i set0)).1 ++ 61 :: (ls1 (L.getD i set0)).2)); rw [hls, hw, hv, List.append_assoc]; rfl)) | (exact Eq.refl _) | (exact Nat.le_of_ble_eq_true rfl) | (intro hg; ((intro hq; ((simp_all; done))))))))
              trivial
            · skip
              have c29 := h29
              (simp only [bsX] at c29)
              refine ⟨fun h30 => ?_, fun h30 => ?_⟩
              · skip
                have c30 := h30
                (simp only [bsX] at c30)
                have hv := val_P (s := L.getD ((i : Int)).toNat set0) (by omega)
                refine ⟨_, _, _, _, (cf_NetTextP hok.2), ?_⟩
                repeat (refine Ob.mk ?_ ?_; (focus (first | (exact wl1 _) | (exact wl2 _ (by rw [← hv]; exact hvl)) | (exact Eq.refl _) | omega | (simp only [SrcE.len, Nat.zero_add, List.length_append, List.length_cons, List.length_nil]; omega))))
                refine ⟨i + 1, (by assumption), (by (simp only [SrcE.len, Nat.zero_add, List.length_append, List.length_cons, List.length_nil]; omega)), ?_⟩
                repeat (refine Ob.mk ?_ ?_; (focus (first | (exact ln_snoc (fun _ _ _ _ => rfl) (fun j hj => by (obtain rfl : j = 0 := by omega); (show EV.s (wrds.getD (L.getD ((i : Int)).toNat set0).k.toNat [] ++ [61] ++ _) = EV.s ((ls1 (L.getD i set0)).1 ++ 61 :: (ls1 (L.getD i set0)).2)); rw [hls, hw, hv, List.append_assoc]; rfl)) | (exact Eq.refl _) | (exact Nat.le_of_ble_eq_true rfl) | (intro hg; ((intro hq; ((simp_all; done))))))))
                trivial
              · skip
                have c30 := h30
                (simp only [bsX] at c30)
                refine ⟨fun h31 => ?_, fun h31 => ?_⟩
                · skip
                  have c31 := h31
                  (simp only [bsX] at c31)
                  refine ⟨fun h32 => ?_, fun h32 => ?_⟩
                  · skip
                    have c32 := h32
                    (simp only [bsX] at c32)
                    have hv := val_Z (s := L.getD ((i : Int)).toNat set0) (by omega) (by simpa using h32)
                    refine ⟨_, _, _, _, cf_zs, ?_⟩
                    repeat (refine Ob.mk ?_ ?_; (focus (first | (exact wl1 _) | (exact wl2 _ (by rw [← hv]; exact hvl)) | (exact Eq.refl _) | omega | (simp only [SrcE.len, Nat.zero_add, List.length_append, List.length_cons, List.length_nil]; omega))))
                    refine ⟨i + 1, (by assumption), (by (simp only [SrcE.len, Nat.zero_add, List.length_append, List.length_cons, List.length_nil]; omega)), ?_⟩
                    repeat (refine Ob.mk ?_ ?_; (focus (first | (exact ln_snoc (fun _ _ _ _ => rfl) (fun j hj => by (obtain rfl : j = 0 := by omega); (show EV.s (wrds.getD (L.getD ((i : Int)).toNat set0).k.toNat [] ++ [61] ++ _) = EV.s ((ls1 (L.getD i set0)).1 ++ 61 :: (ls1 (L.getD i set0)).2)); rw [hls, hw, hv, List.append_assoc]; rfl)) | (exact Eq.refl _) | (exact Nat.le_of_ble_eq_true rfl) | (intro hg; ((intro hq; ((simp_all; done))))))))
                    trivial
                  · skip
                    have c32 := h32
                    (simp only [bsX] at c32)
                    have ht : ¬ (L.getD ((i : Int)).toNat set0).t = [] := by simpa using h32
                    have hv := val_S (s := L.getD ((i : Int)).toNat set0) (by omega) (fun k => ht k.2)
                    repeat (refine Ob.mk ?_ ?_; (focus (first | (exact wl1 _) | (exact wl2 _ (by rw [← hv]; exact hvl)) | (exact Eq.refl _) | omega | (simp only [SrcE.len, Nat.zero_add, List.length_append, List.length_cons, List.length_nil]; omega))))
                    refine ⟨i + 1, (by assumption), (by (simp only [SrcE.len, Nat.zero_add, List.length_append, List.length_cons, List.length_nil]; omega)), ?_⟩
                    repeat (refine Ob.mk ?_ ?_; (focus (first | (exact ln_snoc (fun _ _ _ _ => rfl) (fun j hj => by (obtain rfl : j = 0 := by omega); (show EV.s (wrds.getD (L.getD ((i : Int)).toNat set0).k.toNat [] ++ [61] ++ _) = EV.s ((ls1 (L.getD i set0)).1 ++ 61 :: (ls1 (L.getD i set0)).2)); rw [hls, hw, hv, List.append_assoc]; rfl)) | (exact Eq.refl _) | (exact Nat.le_of_ble_eq_true rfl) | (intro hg; ((intro hq; ((simp_all; done))))))))
                    trivial
                · skip
                  have c31 := h31
                  (simp only [bsX] at c31)
                  have hv := val_S (s := L.getD ((i : Int)).toNat set0) (by omega) (fun k => absurd k.1 (by omega))
                  repeat (refine Ob.mk ?_ ?_; (focus (first | (exact wl1 _) | (exact wl2 _ (by rw [← hv]; exact hvl)) | (exact Eq.refl _) | omega | (simp only [SrcE.len, Nat.zero_add, List.length_append, List.length_cons, List.length_nil]; omega))))
                  refine ⟨i + 1, (by assumption), (by (simp only [SrcE.len, Nat.zero_add, List.length_append, List.length_cons, List.length_nil]; omega)), ?_⟩
                  repeat (refine Ob.mk ?_ ?_; (focus (first | (exact ln_snoc (fun _ _ _ _ => rfl) (fun j hj => by (obtain rfl : j = 0 := by omega); (show EV.s (wrds.getD (L.getD ((i : Int)).toNat set0).k.toNat [] ++ [61] ++ _) = EV.s ((ls1 (L.getD i set0)).1 ++ 61 :: (ls1 (L.getD i set0)).2)); rw [hls, hw, hv, List.append_assoc]; rfl)) | (exact Eq.refl _) | (exact Nat.le_of_ble_eq_true rfl) | (intro hg; ((intro hq; ((simp_all; done))))))))
                  trivial
  · skip
    have c1 := h1
    (simp only [bsX] at c1)
    have hi : i = L.length := by have : i ≤ L.length := hx1; omega
    subst hi
    refine ⟨_, _, _, _, hJ, ?_⟩
    repeat (refine Ob.mk ?_ ?_; (focus (first | (exact (List.length_map ..).symm) | (exact Eq.refl _) | (intro hg; ((intro hq; ((simp_all; done))))))))
    trivial
set_option maxRecDepth 100000 in
set_option maxHeartbeats 4000000 in
theorem cf_BatchBackO {l : List RawS} {L : List SetS} (hl : ∀ x ∈ l, x.inn) (hn : (l.length : Int) ≤ 9223372036854775807) (hL : stsL l 25 = L) : Cf Tryd.prog 10 [] [rawsE l] [] (.b true) := by
  have hS := cf_Settings (m := 25) hl hn (by decide)
  rw [hL] at hS
  have hok : ∀ x ∈ L, chkS x = 0 ∧ x.p.length ≤ 32 ∧ formS x := by rw [← hL]; exact stsL_ok l 25
  have hLn : L.length ≤ 25 := by rw [← hL, stsL_len]; omega
  have hB := sets_back (L := L) (fun x hx => ⟨(hok x hx).1, (hok x hx).2.1⟩) (by omega)
  have hP := cf_bPrint (L := L) (fun x hx => (hok x hx).2.2) (by omega)
  rw [hB.1] at hP
  have hR := cf_bParse (s := jtx (L.map ls1))
  rw [hB.2.1] at hR
  refine Cf.introR tabT {} D0 (by kernel_rfl) tab_ok Tryd.func10 Tryd.ntmps10 rfl rfl (D0_ok) (by kernel_rfl) ?_
  refine ⟨_, _, _, _, hS, ?_⟩
  repeat (refine Ob.mk ?_ ?_; (focus (first | (exact Eq.refl _) | (intro hg; ((intro hq; ((simp_all; done))))))))
  refine ⟨_, _, _, _, hP, ?_⟩
  repeat (refine Ob.mk ?_ ?_; (focus (first | (exact Eq.refl _) | (intro hg; ((intro hq; ((simp_all; done))))))))
  refine ⟨_, _, _, _, hR, ?_⟩
  repeat (refine Ob.mk ?_ ?_; (focus (first | (exact Eq.refl _) | (intro _; exact Eq.refl _))))
  refine gx2 (cf_setEqO (L := L) (by omega)) (fun hk => ⟨fun _ => hk, ?_⟩)
  repeat (refine Ob.mk ?_ ?_; (focus (first | (intro _; exact Eq.refl _) | (intro hg; ((intro hq; ((simp_all; done))))))))
  refine gx2 (cf_keepText (L := L) (fun x hx => ⟨(hok x hx).1, (hok x hx).2.1⟩) (by omega)) (fun hk => ⟨fun _ => hk, ?_⟩)
  repeat (refine Ob.mk ?_ ?_; (focus (first | (intro _; exact Eq.refl _) | (intro hg; ((intro hq; ((simp_all; done))))) | (simp only [cond_true, cond_true, cond_false, Bool.not_true, Bool.not_false, Bool.and_true, Bool.true_and, Bool.and_false, Bool.false_and, Bool.or_true, Bool.true_or, Bool.or_false, Bool.false_or, Int.reduceToNat, UInt8.reduceOfNat]; exact Eq.refl _))))
  trivial
theorem cf_BatchBack {l : List RawS} (hl : ∀ x ∈ l, x.inn) (hn : (l.length : Int) ≤ 9223372036854775807) : Cf Tryd.prog 10 [] [rawsE l] [] (.b true) := cf_BatchBackO hl hn rfl
end Go.Proofs.YtcdoobkaobiacaaDoor
