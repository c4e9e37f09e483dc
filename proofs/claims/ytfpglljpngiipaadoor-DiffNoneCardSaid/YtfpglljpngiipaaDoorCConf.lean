/- Configurations of raw things: contract. -/
import Derived.Test.YtfpglljpngiipaaDoorCConfS
namespace Go.Proofs.YtfpglljpngiipaaDoor
open Go.RowKit
set_option linter.unusedVariables false
set_option linter.unusedSimpArgs false

theorem wr64_in (n : Int) : IntOk (wr64 n) := by
  have := IntKind.wrap_i64 n
  unfold wr64
  unfold IntOk
  omega
theorem pk_small {i : Nat} (h : i < 8) : (pk (i : Int) 8).toNat = i := by
  unfold pk
  rw [decide_eq_false (by omega)]
  show ((i : Int) % 8).toNat = i
  omega
theorem cf_KeyN {i : Nat} (h : i < 8) : Cf Tryd.prog 9 [] [.i (i : Int)] [] (.s (keyN i)) := by
  have e : keyS (i : Int) = keyN i := by unfold keyS; rw [pk_small h]
  rw [← e]
  exact cf_Key ⟨by omega, by omega⟩
abbrev shS2 (r : RawS) : List UInt8 := if pk r.k 3 = 0 then keyN 7 else []
abbrev mt (l : List RawS) (j : Nat) : List (List Bool) := (confSt l j).1
abbrev pS (l : List RawS) (j : Nat) : List PeerS := (confSt l j).2
abbrev gt (l : List RawS) (i k : Nat) : List (List Bool) := gath (rA l i) (confSt l (i - 1)).1 k
abbrev gE (l : List RawS) (i : Nat) : List (List Bool) := gt l i (cntK (rA l i))
abbrev Dl (l : List RawS) (i k : Nat) : List (List Bool) := ((sortN (gE l i)).take k).foldl delN (mt l (i - 1) ++ gE l i)
abbrev port0 (l : List RawS) (i : Nat) : Int := if i = 0 then 0 else pk (rA l 0).a 65536
theorem gath_T {r : RawS} {met : List (List Bool)} {k : Nat} (h : nsK r k ∉ met ++ gath r met k) : gath r met (k + 1) = gath r met k ++ [nsK r k] := if_neg h
theorem gath_F {r : RawS} {met : List (List Bool)} {k : Nat} (h : nsK r k ∈ met ++ gath r met k) : gath r met (k + 1) = gath r met k := if_pos h
theorem confSt_T {l : List RawS} {i : Nat} (h1 : 1 ≤ i) (h : 0 < pk (rA l i).k 5) : mt l i = mt l (i - 1) ++ gE l i ∧ pS l i = pS l (i - 1) ++ [peerR (rA l i) i (gE l i)] := by
  obtain ⟨j, rfl⟩ : ∃ j, i = j + 1 := ⟨i - 1, by omega⟩
  have e : confSt l (j + 1) = _ := if_pos h
  exact ⟨congrArg Prod.fst e, congrArg Prod.snd e⟩
theorem confSt_F {l : List RawS} {i : Nat} (h1 : 1 ≤ i) (h : ¬ 0 < pk (rA l i).k 5) : mt l i = Dl l i (gE l i).length ∧ pS l i = pS l (i - 1) := by
  obtain ⟨j, rfl⟩ : ∃ j, i = j + 1 := ⟨i - 1, by omega⟩
  have e : confSt l (j + 1) = _ := if_neg h
  refine ⟨?_, by show (confSt l (j + 1)).2 = (confSt l j).2; rw [e]⟩
  have e2 := congrArg Prod.fst e
  show (confSt l (j + 1)).1 = ((sortN (gE l (j + 1))).take (gE l (j + 1)).length).foldl delN _
  rw [List.take_of_length_le (by rw [sortN_len]; exact Nat.le_refl _)]
  exact e2
theorem Dl_next {l : List RawS} {i k : Nat} (hk : k < (gE l i).length) : Dl l i (k + 1) = delN (Dl l i k) ((sortN (gE l i)).getD k []) := by
  have hk2 : k < (sortN (gE l i)).length := by rw [sortN_len]; exact hk
  show ((sortN (gE l i)).take (k + 1)).foldl delN _ = _
  rw [List.take_succ_eq_append_getElem hk2, List.foldl_append, List.getD_eq_getElem?_getD, List.getElem?_eq_getElem hk2]; rfl
set_option maxRecDepth 100000 in
set_option maxHeartbeats 4000000 in
theorem cf_kConf {l : List RawS} (hl : ∀ x ∈ l, x.inn) (hn : (l.length : Int) ≤ 9223372036854775807) : Cf Tryd.prog 20 [] [rawsE l] [] (confE (confR l)) := by
  refine Cf.introR tabT {nl := [(4, 51, 2)], nb := [(1003, 2, 71, 5), (1007, 4, 51, 2)], wr := [61, 65], fk := [92]} (DR _ _ _ tabT {nl := [(4, 51, 2)], nb := [(1003, 2, 71, 5), (1007, 4, 51, 2)], wr := [61, 65], fk := [92]}) (by kernel_rfl) tab_ok Tryd.func20 Tryd.ntmps20 rfl rfl (DR_ok tab_ok (by kernel_rfl)) (by kernel_rfl) ?_
  refine ⟨_, _, _, _, (cf_KeyN (i := 0) (by decide)), ?_⟩
  repeat (refine Ob.mk ?_ ?_; focus ((exact Eq.refl _)))
  refine ⟨Nat, fun i => ⟨[(2, .own 1002 0), (3, .own 1003 0), (4, .osl 61 (mt l (i - 1)).length), (14, rawsE l), (15, .i (l.length : Int)), (16, .i (i : Int))], [(1002, .box [.s [], .i 0, .nil] 67), (1003, .box [.s (keyN 0), .i (port0 l i), .osl 701003 (pS l (i - 1)).length] 67), (701003, .rz (pS l (i - 1)).length 5 (fun a b => peerC ((pS l (i - 1)).getD a peer0) b) 71 0), (61, .rz (mt l (i - 1)).length 2 (fun a b => netC ((mt l (i - 1)).getD a []) b) 51 0)]⟩, fun i => i ≤ l.length ∧ i ≤ 7, fun i => l.length - i, 0, ⟨Nat.zero_le _, Nat.zero_le _⟩, ?_, fun i hx1 => ?_⟩
  · skip
    repeat (refine Ob.mk ?_ ?_; focus (first | (exact fun _ _ _ _ => rfl) | (exact Eq.refl _) | omega))
    trivial
  refine ⟨fun h1 => ?_, fun h1 => ?_⟩
  · skip
    have c1 := h1
    (simp only [bsX] at c1)
    have hi : i < l.length := by omega
    have hI := rA_in hl hi
    repeat (refine Ob.mk ?_ ?_; focus (first | assumption | omega))
    refine ⟨fun h2 => ?_, fun h2 => ?_⟩
    · skip
      have c2 := h2
      (simp only [bsX] at c2)
      have hi0 : i = 0 := by omega
      have hpt : pk (rA l i).a 65536 = port0 l (i + 1) := by rw [hi0]; rfl
      have eM : mt l (i - 1) = mt l (i + 1 - 1) := by rw [hi0]
      have eP : pS l (i - 1) = pS l (i + 1 - 1) := by rw [hi0]
      have hnx : i + 1 ≤ l.length ∧ i + 1 ≤ 7 := ⟨hi, by omega⟩
      refine ⟨_, _, _, _, (cf_picked (n := (rA l i).a) (m := 65536) hI.2.1.1 hI.2.1.2 (by decide)), ?_⟩
      repeat (refine Ob.mk ?_ ?_; focus (first | (exact Eq.refl _) | omega))
      refine ⟨i + 1, (by assumption), (by (simp only [SrcE.len, Nat.zero_add, List.length_append, List.length_cons, List.length_nil]; omega)), ?_⟩
      repeat (refine Ob.mk ?_ ?_; focus (first | (exact congrArg List.length eM) | (exact congrArg List.length eP) | (exact eqN eM) | (exact eqP eP) | (exact fun _ _ _ _ => rfl) | (exact hpt) | (exact Eq.refl _) | omega))
      trivial
    · skip
      have c2 := h2
      (simp only [bsX] at c2)
      have h1i : 1 ≤ i := by omega
      have hpt : port0 l i = port0 l (i + 1) := (if_neg (by omega)).trans (if_neg (by omega)).symm
      refine ⟨fun h3 => ?_, fun h3 => ?_⟩
      · skip
        have c3 := h3
        (simp only [bsX] at c3)
        have hz : pS l (i - 1) = (confR l).ps := by show pS l (i - 1) = pS l (min (l.length - 1) 6); rw [show min (l.length - 1) 6 = i - 1 from by omega]
        have hpo : port0 l i = (confR l).port := (if_neg (by omega)).trans (if_neg (by omega)).symm
        repeat (refine Ob.mk ?_ ?_; focus (first | (exact hpo) | (exact congrArg List.length hz) | (exact eqP hz) | (exact Eq.refl _)))
        trivial
      · skip
        have c3 := h3
        (simp only [bsX] at c3)
        have hj : i ≤ 6 := by omega
        have hSt := confSt_ok l (i - 1) (by omega)
        have hml : (mt l (i - 1)).length ≤ 3 * (i - 1) := hSt.len
        have eM0 : mt l (i - 1) ++ gt l i 0 = mt l (i - 1) := List.append_nil _
        have hnx : i + 1 ≤ l.length ∧ i + 1 ≤ 7 := ⟨hi, by omega⟩
        have hpl : (pS l (i - 1)).length ≤ i - 1 := hSt.pl
        have g1 := pk_ge (rA l i).a (m := 5) (by decide)
        have g2 := pk_lt (rA l i).a (m := 5) (by decide)
        have g3 := pk_ge (rA l i).k (m := 4) (by decide)
        have g4 := pk_lt (rA l i).k (m := 4) (by decide)
        refine ⟨[0, 1, 0, 4, 15, 31, 0, 64, 63, 319, 1023, 2047, 4095, 8191, 0, 32767], by kernel_rfl, ?_⟩
        refine ⟨_, _, _, _, (cf_KeyN (i := i) (by omega)), ?_⟩
        repeat (refine Ob.mk ?_ ?_; focus ((exact Eq.refl _)))
        refine ⟨_, _, _, _, (cf_picked (n := (rA l i).b) (m := 100) hI.2.2.1.1 hI.2.2.1.2 (by decide)), ?_⟩
        repeat (refine Ob.mk ?_ ?_; focus ((exact Eq.refl _)))
        refine ⟨_, _, _, _, cf_kends, ?_⟩
        refine ⟨_, _, _, _, cf_kends, ?_⟩
        refine ⟨_, _, _, _, (cf_picked (n := (rA l i).a) (m := 5) hI.2.1.1 hI.2.1.2 (by decide)), ?_⟩
        repeat (refine Ob.mk ?_ ?_; focus (first | (exact Eq.refl _) | omega))
        refine ⟨_, _, _, _, (cf_picked (n := (rA l i).k) (m := 3) hI.1.1 hI.1.2 (by decide)), ?_⟩
        repeat (refine Ob.mk ?_ ?_; focus ((exact Eq.refl _)))
        refine ⟨fun h4 => ?_, fun h4 => ?_⟩
        · skip
          have c4 := h4
          (simp only [bsX] at c4)
          have hs : shS2 (rA l i) = keyN 7 := if_pos c4
          refine ⟨_, _, _, _, (cf_KeyN (i := 7) (by decide)), ?_⟩
          repeat (refine Ob.mk ?_ ?_; focus ((exact Eq.refl _)))
          refine ⟨_, _, _, _, (cf_picked (n := (rA l i).k) (m := 4) hI.1.1 hI.1.2 (by decide)), ?_⟩
          repeat (refine Ob.mk ?_ ?_; focus ((exact Eq.refl _)))
          refine ⟨Nat, fun k => ⟨[(2, .own 1002 0), (3, .own 1003 0), (4, .osl 61 (mt l (i - 1) ++ gt l i k).length), (5, .i (i : Int)), (6, .own 1006 0), (7, .own 1007 0), (14, rawsE l), (15, .i (l.length : Int)), (16, .i (i : Int)), (51, .i (pk (rA l i).k 4)), (52, .i (k : Int))], [(1002, .box [.s [], .i 0, .nil] 67), (1003, .box [.s (keyN 0), .i (port0 l i), .osl 701003 (pS l (i - 1)).length] 67), (701003, .rz (pS l (i - 1)).length 5 (fun a b => peerC ((pS l (i - 1)).getD a peer0) b) 71 0), (61, .rz (mt l (i - 1) ++ gt l i k).length 2 (fun a b => netC ((mt l (i - 1) ++ gt l i k).getD a []) b) 51 0), (1006, .box [.i (rA l i).k, .i (rA l i).a, .i (rA l i).b, .s (rA l i).s] 94), (1007, .box [.s (keyN i), .s (shS2 (rA l i)), .s (endL.getD (pk (rA l i).a 5).toNat []), .i (pk (rA l i).b 100), .osl 701007 (gt l i k).length] 71), (701007, .rz (gt l i k).length 2 (fun a b => netC ((gt l i k).getD a []) b) 51 0)]⟩, fun k => (k : Int) ≤ pk (rA l i).k 4, fun k => (pk (rA l i).k 4).toNat - k, 0, g3, ?_, fun k hx2 => ?_⟩
          · skip
            repeat (refine Ob.mk ?_ ?_; (focus (first | (exact fun _ _ _ _ => rfl) | (exact congrArg List.length eM0.symm) | (exact eqN eM0.symm) | (rw [hs]; done) | (exact Eq.refl _) | omega)))
            trivial
          refine ⟨fun h5 => ?_, fun h5 => ?_⟩
          · skip
            have c5 := h5
            (simp only [bsX] at c5)
            have hk : (k : Int) < pk (rA l i).k 4 := by omega
            have hgl : (gt l i k).length ≤ k := gath_len (rA l i) (confSt l (i - 1)).1 k
            have hal : (mt l (i - 1) ++ gt l i k).length ≤ 1000 := by rw [List.length_append]; omega
            repeat (refine Ob.mk ?_ ?_; focus (omega))
            refine ⟨_, _, _, _, (cf_kNet (k := (rA l i).k) (a := wr64 ((rA l i).a + 5 * (k : Int))) (b := wr64 ((rA l i).b + (k : Int))) (s := []) hI.1 (wr64_in _) (wr64_in _)), ?_⟩
            repeat (refine Ob.mk ?_ ?_; focus ((exact Eq.refl _)))
            refine ⟨_, _, _, _, (cf_netHas (ns := mt l (i - 1) ++ gt l i k) (n := nsK (rA l i) k) hal netP_len), ?_⟩
            repeat (refine Ob.mk ?_ ?_; focus (first | (exact fun _ _ _ _ => rfl) | (exact Eq.refl _) | omega))
            refine ⟨fun h6 => ?_, fun h6 => ?_⟩
            · skip
              have c6 := h6
              (simp only [bsX] at c6)
              have hg : gt l i (k + 1) = gt l i k ++ [nsK (rA l i) k] := gath_T c6
              have hM : mt l (i - 1) ++ gt l i (k + 1) = (mt l (i - 1) ++ gt l i k) ++ [nsK (rA l i) k] := (congrArg (mt l (i - 1) ++ ·) hg).trans (List.append_assoc ..).symm
              have hl1 : (mt l (i - 1) ++ gt l i k).length + 1 = (mt l (i - 1) ++ gt l i (k + 1)).length := by rw [hM]; simp [Nat.add_assoc]
              have hl2 : (gt l i k).length + 1 = (gt l i (k + 1)).length := by rw [hg]; simp
              repeat (refine Ob.mk ?_ ?_; (focus (first | (exact Eq.refl _) | omega | (simp only [SrcE.len, Nat.zero_add, List.length_append, List.length_cons, List.length_nil]; omega))))
              refine ⟨k + 1, (by assumption), (by (simp only [SrcE.len, Nat.zero_add, List.length_append, List.length_cons, List.length_nil]; omega)), ?_⟩
              repeat (refine Ob.mk ?_ ?_; (focus (first | (exact hl1) | (exact hl2) | (exact nets_snoc rfl hM) | (exact nets_snoc rfl hg) | (exact fun _ _ _ _ => rfl) | (rw [hs]; done) | (exact Eq.refl _) | omega | (exact Nat.le_of_ble_eq_true rfl))))
              trivial
            · skip
              have c6 := h6
              (simp only [bsX] at c6)
              have hg : gt l i k = gt l i (k + 1) := (gath_F c6).symm
              have hM : mt l (i - 1) ++ gt l i k = mt l (i - 1) ++ gt l i (k + 1) := congrArg (mt l (i - 1) ++ ·) hg
              have hl1 := congrArg List.length hM
              have hl2 := congrArg List.length hg
              repeat (refine Ob.mk ?_ ?_; focus (omega))
              refine ⟨k + 1, (by assumption), (by (simp only [SrcE.len, Nat.zero_add, List.length_append, List.length_cons, List.length_nil]; omega)), ?_⟩
              repeat (refine Ob.mk ?_ ?_; (focus (first | (exact hl1) | (exact hl2) | (exact eqN hM) | (exact eqN hg) | (exact fun _ _ _ _ => rfl) | (rw [hs]; done) | (exact Eq.refl _) | omega)))
              trivial
          · skip
            have c5 := h5
            (simp only [bsX] at c5)
            obtain rfl : k = cntK (rA l i) := by unfold cntK; omega
            have hgl : (gE l i).length ≤ cntK (rA l i) := gath_len (rA l i) (confSt l (i - 1)).1 (cntK (rA l i))
            have hg32 : ∀ n ∈ gE l i, n.length ≤ 32 := gath_32 (rA l i) (confSt l (i - 1)).1 (cntK (rA l i))
            have hc3 : cntK (rA l i) ≤ 3 := by unfold cntK; omega
            have ha32 : ∀ n ∈ mt l (i - 1) ++ gE l i, n.length ≤ 32 := fun n h => (List.mem_append.1 h).elim (hSt.b32 n) (hg32 n)
            have hal : (mt l (i - 1) ++ gE l i).length ≤ 1000 := by rw [List.length_append]; omega
            refine ⟨_, _, _, _, (cf_nSort (ns := gE l i) (by omega) hg32), ?_⟩
            repeat (refine Ob.mk ?_ ?_; focus (first | (exact fun _ _ _ _ => rfl) | (exact Eq.refl _) | omega))
            refine ⟨_, _, _, _, (cf_picked (n := (rA l i).k) (m := 5) hI.1.1 hI.1.2 (by decide)), ?_⟩
            repeat (refine Ob.mk ?_ ?_; focus ((exact Eq.refl _)))
            refine ⟨fun h7 => ?_, fun h7 => ?_⟩
            · skip
              have c7 := h7
              (simp only [bsX] at c7)
              have hcM : mt l (i - 1) ++ gE l i = mt l (i + 1 - 1) := (confSt_T h1i c7).1.symm
              have hcP : pS l (i + 1 - 1) = pS l (i - 1) ++ [peerR (rA l i) i (gE l i)] := (confSt_T h1i c7).2
              have hcl : (pS l (i - 1)).length + 1 = (pS l (i + 1 - 1)).length := by rw [hcP]; simp
              repeat (refine Ob.mk ?_ ?_; (focus (first | (exact Eq.refl _) | omega | (simp only [SrcE.len, Nat.zero_add, List.length_append, List.length_cons, List.length_nil]; omega))))
              refine ⟨i + 1, (by assumption), (by (simp only [SrcE.len, Nat.zero_add, List.length_append, List.length_cons, List.length_nil]; omega)), ?_⟩
              repeat (refine Ob.mk ?_ ?_; (focus (first | (exact hcl) | (exact congrArg List.length hcM) | (exact eqN hcM) | (refine peers_snoc (p := peerR (rA l i) i (gE l i)) ?_ hcP; exact congrArg (fun n => [EV.s (keyN i), .s (shS2 (rA l i)), .s (endL.getD (pk (rA l i).a 5).toNat []), .i (pk (rA l i).b 100), EV.lz n 2 (fun a b => netC ((sortN (gE l i)).getD a []) b)]) (sortN_len (gE l i)).symm) | (exact fun _ _ _ _ => rfl) | (exact hpt) | (exact Eq.refl _) | omega | (exact Nat.le_of_ble_eq_true rfl))))
              trivial
            · skip
              have c7 := h7
              (simp only [bsX] at c7)
              have hcM : Dl l i (gE l i).length = mt l (i + 1 - 1) := (confSt_F h1i c7).1.symm
              have hcP : pS l (i - 1) = pS l (i + 1 - 1) := (confSt_F h1i c7).2.symm
              have hcl := congrArg List.length hcP
              refine ⟨Nat, fun k => ⟨[(2, .own 1002 0), (3, .own 1003 0), (4, .osl 61 (Dl l i k).length), (14, rawsE l), (15, .i (l.length : Int)), (16, .i (i : Int)), (97, .osl 701007 (gE l i).length), (98, .i ((gE l i).length : Int)), (99, .i (k : Int))], [(1002, .box [.s [], .i 0, .nil] 67), (1003, .box [.s (keyN 0), .i (port0 l i), .osl 701003 (pS l (i - 1)).length] 67), (701003, .rz (pS l (i - 1)).length 5 (fun a b => peerC ((pS l (i - 1)).getD a peer0) b) 71 0), (61, .rz (Dl l i k).length 2 (fun a b => netC ((Dl l i k).getD a []) b) 51 0), (701007, .rz (gE l i).length 2 (fun a b => netC ((sortN (gE l i)).getD a []) b) 51 0)]⟩, fun k => k ≤ (gE l i).length, fun k => (gE l i).length - k, 0, Nat.zero_le _, ?_, fun k hx3 => ?_⟩
              · skip
                repeat (refine Ob.mk ?_ ?_; focus (first | (exact fun _ _ _ _ => rfl) | (exact Eq.refl _) | omega))
                trivial
              refine ⟨fun h8 => ?_, fun h8 => ?_⟩
              · skip
                have c8 := h8
                (simp only [bsX] at c8)
                have hk : k < (gE l i).length := by omega
                have hD := Dl_next hk
                have hdl := delF_len ((sortN (gE l i)).take k) (mt l (i - 1) ++ gE l i)
                repeat (refine Ob.mk ?_ ?_; focus (first | assumption | omega))
                refine ⟨_, _, _, _, (cf_nDel (ns := Dl l i k) (n := (sortN (gE l i)).getD k []) (Nat.le_trans hdl hal) (delF_32 _ _ ha32)), ?_⟩
                repeat (refine Ob.mk ?_ ?_; focus (first | (exact fun _ _ _ _ => rfl) | (exact Eq.refl _) | omega))
                refine ⟨k + 1, (by assumption), (by (simp only [SrcE.len, Nat.zero_add, List.length_append, List.length_cons, List.length_nil]; omega)), ?_⟩
                repeat (refine Ob.mk ?_ ?_; focus (first | (exact congrArg List.length hD.symm) | (exact eqN hD.symm) | (exact fun _ _ _ _ => rfl) | (exact Eq.refl _) | omega))
                trivial
              · skip
                have c8 := h8
                (simp only [bsX] at c8)
                obtain rfl : k = (gE l i).length := by omega
                repeat (refine Ob.mk ?_ ?_; focus (omega))
                refine ⟨i + 1, (by assumption), (by (simp only [SrcE.len, Nat.zero_add, List.length_append, List.length_cons, List.length_nil]; omega)), ?_⟩
                repeat (refine Ob.mk ?_ ?_; focus (first | (exact hcl) | (exact congrArg List.length hcM) | (exact eqN hcM) | (exact eqP hcP) | (exact fun _ _ _ _ => rfl) | (exact hpt) | (exact Eq.refl _) | omega))
                trivial
        · skip
          have c4 := h4
          (simp only [bsX] at c4)
          have hs : shS2 (rA l i) = [] := if_neg c4
          refine ⟨_, _, _, _, (cf_picked (n := (rA l i).k) (m := 4) hI.1.1 hI.1.2 (by decide)), ?_⟩
          repeat (refine Ob.mk ?_ ?_; focus ((exact Eq.refl _)))
          refine ⟨Nat, fun k => ⟨[(2, .own 1002 0), (3, .own 1003 0), (4, .osl 61 (mt l (i - 1) ++ gt l i k).length), (5, .i (i : Int)), (6, .own 1006 0), (7, .own 1007 0), (14, rawsE l), (15, .i (l.length : Int)), (16, .i (i : Int)), (51, .i (pk (rA l i).k 4)), (52, .i (k : Int))], [(1002, .box [.s [], .i 0, .nil] 67), (1003, .box [.s (keyN 0), .i (port0 l i), .osl 701003 (pS l (i - 1)).length] 67), (701003, .rz (pS l (i - 1)).length 5 (fun a b => peerC ((pS l (i - 1)).getD a peer0) b) 71 0), (61, .rz (mt l (i - 1) ++ gt l i k).length 2 (fun a b => netC ((mt l (i - 1) ++ gt l i k).getD a []) b) 51 0), (1006, .box [.i (rA l i).k, .i (rA l i).a, .i (rA l i).b, .s (rA l i).s] 94), (1007, .box [.s (keyN i), .s (shS2 (rA l i)), .s (endL.getD (pk (rA l i).a 5).toNat []), .i (pk (rA l i).b 100), .osl 701007 (gt l i k).length] 71), (701007, .rz (gt l i k).length 2 (fun a b => netC ((gt l i k).getD a []) b) 51 0)]⟩, fun k => (k : Int) ≤ pk (rA l i).k 4, fun k => (pk (rA l i).k 4).toNat - k, 0, g3, ?_, fun k hx2 => ?_⟩
          · skip
            repeat (refine Ob.mk ?_ ?_; (focus (first | (exact fun _ _ _ _ => rfl) | (exact congrArg List.length eM0.symm) | (exact eqN eM0.symm) | (rw [hs]; done) | (exact Eq.refl _) | omega)))
            trivial
          refine ⟨fun h9 => ?_, fun h9 => ?_⟩
          · skip
            have c9 := h9
            (simp only [bsX] at c9)
            have hk : (k : Int) < pk (rA l i).k 4 := by omega
            have hgl : (gt l i k).length ≤ k := gath_len (rA l i) (confSt l (i - 1)).1 k
            have hal : (mt l (i - 1) ++ gt l i k).length ≤ 1000 := by rw [List.length_append]; omega
            repeat (refine Ob.mk ?_ ?_; focus (omega))
            refine ⟨_, _, _, _, (cf_kNet (k := (rA l i).k) (a := wr64 ((rA l i).a + 5 * (k : Int))) (b := wr64 ((rA l i).b + (k : Int))) (s := []) hI.1 (wr64_in _) (wr64_in _)), ?_⟩
            repeat (refine Ob.mk ?_ ?_; focus ((exact Eq.refl _)))
            refine ⟨_, _, _, _, (cf_netHas (ns := mt l (i - 1) ++ gt l i k) (n := nsK (rA l i) k) hal netP_len), ?_⟩
            repeat (refine Ob.mk ?_ ?_; focus (first | (exact fun _ _ _ _ => rfl) | (exact Eq.refl _) | omega))
            refine ⟨fun h10 => ?_, fun h10 => ?_⟩
            · skip
              have c10 := h10
              (simp only [bsX] at c10)
              have hg : gt l i (k + 1) = gt l i k ++ [nsK (rA l i) k] := gath_T c10
              have hM : mt l (i - 1) ++ gt l i (k + 1) = (mt l (i - 1) ++ gt l i k) ++ [nsK (rA l i) k] := (congrArg (mt l (i - 1) ++ ·) hg).trans (List.append_assoc ..).symm
              have hl1 : (mt l (i - 1) ++ gt l i k).length + 1 = (mt l (i - 1) ++ gt l i (k + 1)).length := by rw [hM]; simp [Nat.add_assoc]
              have hl2 : (gt l i k).length + 1 = (gt l i (k + 1)).length := by rw [hg]; simp
              repeat (refine Ob.mk ?_ ?_; (focus (first | (exact Eq.refl _) | omega | (simp only [SrcE.len, Nat.zero_add, List.length_append, List.length_cons, List.length_nil]; omega))))
              refine ⟨k + 1, (by assumption), (by (simp only [SrcE.len, Nat.zero_add, List.length_append, List.length_cons, List.length_nil]; omega)), ?_⟩
              repeat (refine Ob.mk ?_ ?_; (focus (first | (exact hl1) | (exact hl2) | (exact nets_snoc rfl hM) | (exact nets_snoc rfl hg) | (exact fun _ _ _ _ => rfl) | (rw [hs]; done) | (exact Eq.refl _) | omega | (exact Nat.le_of_ble_eq_true rfl))))
              trivial
            · skip
              have c10 := h10
              (simp only [bsX] at c10)
              have hg : gt l i k = gt l i (k + 1) := (gath_F c10).symm
              have hM : mt l (i - 1) ++ gt l i k = mt l (i - 1) ++ gt l i (k + 1) := congrArg (mt l (i - 1) ++ ·) hg
              have hl1 := congrArg List.length hM
              have hl2 := congrArg List.length hg
              repeat (refine Ob.mk ?_ ?_; focus (omega))
              refine ⟨k + 1, (by assumption), (by (simp only [SrcE.len, Nat.zero_add, List.length_append, List.length_cons, List.length_nil]; omega)), ?_⟩
              repeat (refine Ob.mk ?_ ?_; (focus (first | (exact hl1) | (exact hl2) | (exact eqN hM) | (exact eqN hg) | (exact fun _ _ _ _ => rfl) | (rw [hs]; done) | (exact Eq.refl _) | omega)))
              trivial
          · skip
            have c9 := h9
            (simp only [bsX] at c9)
            obtain rfl : k = cntK (rA l i) := by unfold cntK; omega
            have hgl : (gE l i).length ≤ cntK (rA l i) := gath_len (rA l i) (confSt l (i - 1)).1 (cntK (rA l i))
            have hg32 : ∀ n ∈ gE l i, n.length ≤ 32 := gath_32 (rA l i) (confSt l (i - 1)).1 (cntK (rA l i))
            have hc3 : cntK (rA l i) ≤ 3 := by unfold cntK; omega
            have ha32 : ∀ n ∈ mt l (i - 1) ++ gE l i, n.length ≤ 32 := fun n h => (List.mem_append.1 h).elim (hSt.b32 n) (hg32 n)
            have hal : (mt l (i - 1) ++ gE l i).length ≤ 1000 := by rw [List.length_append]; omega
            refine ⟨_, _, _, _, (cf_nSort (ns := gE l i) (by omega) hg32), ?_⟩
            repeat (refine Ob.mk ?_ ?_; focus (first | (exact fun _ _ _ _ => rfl) | (exact Eq.refl _) | omega))
            refine ⟨_, _, _, _, (cf_picked (n := (rA l i).k) (m := 5) hI.1.1 hI.1.2 (by decide)), ?_⟩
            repeat (refine Ob.mk ?_ ?_; focus ((exact Eq.refl _)))
            refine ⟨fun h11 => ?_, fun h11 => ?_⟩
            · skip
              have c11 := h11
              (simp only [bsX] at c11)
              have hcM : mt l (i - 1) ++ gE l i = mt l (i + 1 - 1) := (confSt_T h1i c11).1.symm
              have hcP : pS l (i + 1 - 1) = pS l (i - 1) ++ [peerR (rA l i) i (gE l i)] := (confSt_T h1i c11).2
              have hcl : (pS l (i - 1)).length + 1 = (pS l (i + 1 - 1)).length := by rw [hcP]; simp
              repeat (refine Ob.mk ?_ ?_; (focus (first | (exact Eq.refl _) | omega | (simp only [SrcE.len, Nat.zero_add, List.length_append, List.length_cons, List.length_nil]; omega))))
              refine ⟨i + 1, (by assumption), (by (simp only [SrcE.len, Nat.zero_add, List.length_append, List.length_cons, List.length_nil]; omega)), ?_⟩
              repeat (refine Ob.mk ?_ ?_; (focus (first | (exact hcl) | (exact congrArg List.length hcM) | (exact eqN hcM) | (refine peers_snoc (p := peerR (rA l i) i (gE l i)) ?_ hcP; exact congrArg (fun n => [EV.s (keyN i), .s (shS2 (rA l i)), .s (endL.getD (pk (rA l i).a 5).toNat []), .i (pk (rA l i).b 100), EV.lz n 2 (fun a b => netC ((sortN (gE l i)).getD a []) b)]) (sortN_len (gE l i)).symm) | (exact fun _ _ _ _ => rfl) | (exact hpt) | (exact Eq.refl _) | omega | (exact Nat.le_of_ble_eq_true rfl))))
              trivial
            · skip
              have c11 := h11
              (simp only [bsX] at c11)
              have hcM : Dl l i (gE l i).length = mt l (i + 1 - 1) := (confSt_F h1i c11).1.symm
              have hcP : pS l (i - 1) = pS l (i + 1 - 1) := (confSt_F h1i c11).2.symm
              have hcl := congrArg List.length hcP
              refine ⟨Nat, fun k => ⟨[(2, .own 1002 0), (3, .own 1003 0), (4, .osl 61 (Dl l i k).length), (14, rawsE l), (15, .i (l.length : Int)), (16, .i (i : Int)), (97, .osl 701007 (gE l i).length), (98, .i ((gE l i).length : Int)), (99, .i (k : Int))], [(1002, .box [.s [], .i 0, .nil] 67), (1003, .box [.s (keyN 0), .i (port0 l i), .osl 701003 (pS l (i - 1)).length] 67), (701003, .rz (pS l (i - 1)).length 5 (fun a b => peerC ((pS l (i - 1)).getD a peer0) b) 71 0), (61, .rz (Dl l i k).length 2 (fun a b => netC ((Dl l i k).getD a []) b) 51 0), (701007, .rz (gE l i).length 2 (fun a b => netC ((sortN (gE l i)).getD a []) b) 51 0)]⟩, fun k => k ≤ (gE l i).length, fun k => (gE l i).length - k, 0, Nat.zero_le _, ?_, fun k hx3 => ?_⟩
              · skip
                repeat (refine Ob.mk ?_ ?_; focus (first | (exact fun _ _ _ _ => rfl) | (exact Eq.refl _) | omega))
                trivial
              refine ⟨fun h12 => ?_, fun h12 => ?_⟩
              · skip
                have c12 := h12
                (simp only [bsX] at c12)
                have hk : k < (gE l i).length := by omega
                have hD := Dl_next hk
                have hdl := delF_len ((sortN (gE l i)).take k) (mt l (i - 1) ++ gE l i)
                repeat (refine Ob.mk ?_ ?_; focus (first | assumption | omega))
                refine ⟨_, _, _, _, (cf_nDel (ns := Dl l i k) (n := (sortN (gE l i)).getD k []) (Nat.le_trans hdl hal) (delF_32 _ _ ha32)), ?_⟩
                repeat (refine Ob.mk ?_ ?_; focus (first | (exact fun _ _ _ _ => rfl) | (exact Eq.refl _) | omega))
                refine ⟨k + 1, (by assumption), (by (simp only [SrcE.len, Nat.zero_add, List.length_append, List.length_cons, List.length_nil]; omega)), ?_⟩
                repeat (refine Ob.mk ?_ ?_; focus (first | (exact congrArg List.length hD.symm) | (exact eqN hD.symm) | (exact fun _ _ _ _ => rfl) | (exact Eq.refl _) | omega))
                trivial
              · skip
                have c12 := h12
                (simp only [bsX] at c12)
                obtain rfl : k = (gE l i).length := by omega
                repeat (refine Ob.mk ?_ ?_; focus (omega))
                refine ⟨i + 1, (by assumption), (by (simp only [SrcE.len, Nat.zero_add, List.length_append, List.length_cons, List.length_nil]; omega)), ?_⟩
                repeat (refine Ob.mk ?_ ?_; focus (first | (exact hcl) | (exact congrArg List.length hcM) | (exact eqN hcM) | (exact eqP hcP) | (exact fun _ _ _ _ => rfl) | (exact hpt) | (exact Eq.refl _) | omega))
                trivial
  · skip
    have c1 := h1
    (simp only [bsX] at c1)
    have hz : pS l (i - 1) = (confR l).ps := by show pS l (i - 1) = pS l (min (l.length - 1) 6); rw [show min (l.length - 1) 6 = i - 1 from by omega]
    have hpo : port0 l i = (confR l).port := by show port0 l i = port0 l l.length; rw [show i = l.length from by omega]
    repeat (refine Ob.mk ?_ ?_; focus (first | (exact hpo) | (exact congrArg List.length hz) | (exact eqP hz) | (exact Eq.refl _)))
    trivial
end Go.Proofs.YtfpglljpngiipaaDoor
