/- ApplyOwn: the configuration that is passed to a function is not modified, and shares no memory with the result: the statement holds of the program, for every input. No further condition. -/
import Derived.Test.YtcebndkiagbddaaGreatDoorProg
import Derived.KernelRfl
import Derived.JoinedOf
import Derived.Test.YtcebndkiagbddaaGreatDoorTie
import Derived.Test.YtcebndkiagbddaaGreatDoorCards
import Derived.Lay
import Derived.SevenTiedAt
import Derived.MakeChecks
import Derived.Lib.LaidTab
import Derived.Stop.LaidErr
import Derived.Test.YtcebndkiagbddaaGreatDoorJ6
namespace Go.Proofs.YtcebndkiagbddaaGreatDoor
open Go.RowKit
set_option linter.unusedVariables false
set_option linter.unusedSimpArgs false

theorem wr64_in (n : Int) : IntOk (wr64 n) := by
  have := IntKind.wrap_i64 n
  unfold wr64
  unfold IntOk
  omega
theorem pk_small {i : Nat} (h : i < 8) : (pk (i : Int) 8).toNat = i := by
  unfold pk
  rw [decide_eq_false (by omega)]
  show ((i : Int) % 8).toNat = i
  omega
theorem cf_KeyN {i : Nat} (h : i < 8) : Cf Tryz.prog 31 [] [.i (i : Int)] [] (.s (keyN i)) := by
  have e : keyS (i : Int) = keyN i := by unfold keyS; rw [pk_small h]
  rw [← e]
  exact cf_Key ⟨by omega, by omega⟩
abbrev shS2 (r : RawS) : List UInt8 := if pk r.k 3 = 0 then keyN 7 else []
abbrev mt (l : List RawS) (j : Nat) : List (List Bool) := (confSt l j).1
abbrev pS (l : List RawS) (j : Nat) : List PeerS := (confSt l j).2
abbrev gt (l : List RawS) (i k : Nat) : List (List Bool) := gath (rA l i) (confSt l (i - 1)).1 k
abbrev gE (l : List RawS) (i : Nat) : List (List Bool) := gt l i (cntK (rA l i))
abbrev Dl (l : List RawS) (i k : Nat) : List (List Bool) := ((sortN (gE l i)).take k).foldl delN (mt l (i - 1) ++ gE l i)
abbrev port0 (l : List RawS) (i : Nat) : Int := if i = 0 then 0 else pk (rA l 0).a 65536
theorem gath_T {r : RawS} {met : List (List Bool)} {k : Nat} (h : nsK r k ∉ met ++ gath r met k) : gath r met (k + 1) = gath r met k ++ [nsK r k] := if_neg h
theorem gath_F {r : RawS} {met : List (List Bool)} {k : Nat} (h : nsK r k ∈ met ++ gath r met k) : gath r met (k + 1) = gath r met k := if_pos h
theorem confSt_T {l : List RawS} {i : Nat} (h1 : 1 ≤ i) (h : 0 < pk (rA l i).k 5) : mt l i = mt l (i - 1) ++ gE l i ∧ pS l i = pS l (i - 1) ++ [peerR (rA l i) i (gE l i)] := by
  obtain ⟨j, rfl⟩ : ∃ j, i = j + 1 := ⟨i - 1, by omega⟩
  have e : confSt l (j + 1) = _ := if_pos h
  exact ⟨congrArg Prod.fst e, congrArg Prod.snd e⟩
theorem confSt_F {l : List RawS} {i : Nat} (h1 : 1 ≤ i) (h : ¬ 0 < pk (rA l i).k 5) : mt l i = Dl l i (gE l i).length ∧ pS l i = pS l (i - 1) := by
  obtain ⟨j, rfl⟩ : ∃ j, i = j + 1 := ⟨i - 1, by omega⟩
  have e : confSt l (j + 1) = _ := if_neg h
  refine ⟨?_, by show (confSt l (j + 1)).2 = (confSt l j).2; rw [e]⟩
  have e2 := congrArg Prod.fst e
  show (confSt l (j + 1)).1 = ((sortN (gE l (j + 1))).take (gE l (j + 1)).length).foldl delN _
  rw [List.take_of_length_le (by rw [sortN_len]; exact Nat.le_refl _)]
  exact e2
theorem Dl_next {l : List RawS} {i k : Nat} (hk : k < (gE l i).length) : Dl l i (k + 1) = delN (Dl l i k) ((sortN (gE l i)).getD k []) := by
  have hk2 : k < (sortN (gE l i)).length := by rw [sortN_len]; exact hk
  show ((sortN (gE l i)).take (k + 1)).foldl delN _ = _
  rw [List.take_succ_eq_append_getElem hk2, List.foldl_append, List.getD_eq_getElem?_getD, List.getElem?_eq_getElem hk2]; rfl
set_option maxRecDepth 100000 in
set_option maxHeartbeats 4000000 in
theorem cf_kConf {l : List RawS} (hl : ∀ x ∈ l, x.inn) (hn : (l.length : Int) ≤ 9223372036854775807) : Cf Tryz.prog 16 [] [rawsE l] [] (confE (confR l)) := by
  refine Cf.introR tabT {nl := [(4, 36, 2)], nb := [(1003, 2, 33, 5), (1007, 4, 36, 2)], wr := [61, 65], fk := [92]} (DR _ _ _ tabT {nl := [(4, 36, 2)], nb := [(1003, 2, 33, 5), (1007, 4, 36, 2)], wr := [61, 65], fk := [92]}) (by kernel_rfl) tab_ok Tryz.func16 Tryz.ntmps16 rfl rfl (DR_ok tab_ok (by kernel_rfl)) (by kernel_rfl) ?_
  refine ⟨_, _, _, _, (cf_KeyN (i := 0) (by decide)), ?_⟩
  repeat (refine Ob.mk ?_ ?_; focus ((exact Eq.refl _)))
  refine ⟨Nat, fun i => ⟨[(2, .own 1002 0), (3, .own 1003 0), (4, .osl 61 (mt l (i - 1)).length), (14, rawsE l), (15, .i (l.length : Int)), (16, .i (i : Int))], [(1002, .box [.s [], .i 0, .nil] 25), (1003, .box [.s (keyN 0), .i (port0 l i), .osl 701003 (pS l (i - 1)).length] 25), (701003, .rz (pS l (i - 1)).length 5 (fun a b => peerC ((pS l (i - 1)).getD a peer0) b) 33 0), (61, .rz (mt l (i - 1)).length 2 (fun a b => netC ((mt l (i - 1)).getD a []) b) 36 0)]⟩, fun i => i ≤ l.length ∧ i ≤ 7, fun i => l.length - i, 0, ⟨Nat.zero_le _, Nat.zero_le _⟩, ?_, fun i hx1 => ?_⟩
  · skip
    repeat (refine Ob.mk ?_ ?_; focus (first | (exact fun _ _ _ _ => rfl) | (exact Eq.refl _) | omega))
    trivial
  refine ⟨fun h1 => ?_, fun h1 => ?_⟩
  · skip
    have c1 := h1
    (simp only [bsX] at c1)
    have hi : i < l.length := by omega
    have hI := rA_in hl hi
    repeat (refine Ob.mk ?_ ?_; focus (first | assumption | omega))
    refine ⟨fun h2 => ?_, fun h2 => ?_⟩
    · skip
      have c2 := h2
      (simp only [bsX] at c2)
      have hi0 : i = 0 := by omega
      have hpt : pk (rA l i).a 65536 = port0 l (i + 1) := by rw [hi0]; rfl
      have eM : mt l (i - 1) = mt l (i + 1 - 1) := by rw [hi0]
      have eP : pS l (i - 1) = pS l (i + 1 - 1) := by rw [hi0]
      have hnx : i + 1 ≤ l.length ∧ i + 1 ≤ 7 := ⟨hi, by omega⟩
      refine ⟨_, _, _, _, (cf_picked (n := (rA l i).a) (m := 65536) hI.2.1.1 hI.2.1.2 (by decide)), ?_⟩
      repeat (refine Ob.mk ?_ ?_; focus (first | (exact Eq.refl _) | omega))
      refine ⟨i + 1, (by assumption), (by (simp only [SrcE.len, Nat.zero_add, List.length_append, List.length_cons, List.length_nil]; omega)), ?_⟩
      repeat (refine Ob.mk ?_ ?_; focus (first | (exact congrArg List.length eM) | (exact congrArg List.length eP) | (exact eqN eM) | (exact eqP eP) | (exact fun _ _ _ _ => rfl) | (exact hpt) | (exact Eq.refl _) | omega))
      trivial
    · skip
      have c2 := h2
      (simp only [bsX] at c2)
      have h1i : 1 ≤ i := by omega
      have hpt : port0 l i = port0 l (i + 1) := (if_neg (by omega)).trans (if_neg (by omega)).symm
      refine ⟨fun h3 => ?_, fun h3 => ?_⟩
      · skip
        have c3 := h3
        (simp only [bsX] at c3)
        have hz : pS l (i - 1) = (confR l).ps := by show pS l (i - 1) = pS l (min (l.length - 1) 6); rw [show min (l.length - 1) 6 = i - 1 from by omega]
        have hpo : port0 l i = (confR l).port := (if_neg (by omega)).trans (if_neg (by omega)).symm
        repeat (refine Ob.mk ?_ ?_; focus (first | (exact hpo) | (exact congrArg List.length hz) | (exact eqP hz) | (exact Eq.refl _)))
        trivial
      · skip
        have c3 := h3
        (simp only [bsX] at c3)
        have hj : i ≤ 6 := by omega
        have hSt := confSt_ok l (i - 1) (by omega)
        have hml : (mt l (i - 1)).length ≤ 3 * (i - 1) := hSt.len
        have eM0 : mt l (i - 1) ++ gt l i 0 = mt l (i - 1) := List.append_nil _
        have hnx : i + 1 ≤ l.length ∧ i + 1 ≤ 7 := ⟨hi, by omega⟩
        have hpl : (pS l (i - 1)).length ≤ i - 1 := hSt.pl
        have g1 := pk_ge (rA l i).a (m := 5) (by decide)
        have g2 := pk_lt (rA l i).a (m := 5) (by decide)
        have g3 := pk_ge (rA l i).k (m := 4) (by decide)
        have g4 := pk_lt (rA l i).k (m := 4) (by decide)
        refine ⟨[0, 1, 0, 4, 15, 31, 0, 64, 63, 319, 1023, 2047, 4095, 8191, 0, 32767], by kernel_rfl, ?_⟩
        refine ⟨_, _, _, _, (cf_KeyN (i := i) (by omega)), ?_⟩
        repeat (refine Ob.mk ?_ ?_; focus ((exact Eq.refl _)))
        refine ⟨_, _, _, _, (cf_picked (n := (rA l i).b) (m := 100) hI.2.2.1.1 hI.2.2.1.2 (by decide)), ?_⟩
        repeat (refine Ob.mk ?_ ?_; focus ((exact Eq.refl _)))
        refine ⟨_, _, _, _, cf_kends, ?_⟩
        refine ⟨_, _, _, _, cf_kends, ?_⟩
        refine ⟨_, _, _, _, (cf_picked (n := (rA l i).a) (m := 5) hI.2.1.1 hI.2.1.2 (by decide)), ?_⟩
        repeat (refine Ob.mk ?_ ?_; focus (first | (exact Eq.refl _) | omega))
        refine ⟨_, _, _, _, (cf_picked (n := (rA l i).k) (m := 3) hI.1.1 hI.1.2 (by decide)), ?_⟩
        repeat (refine Ob.mk ?_ ?_; focus ((exact Eq.refl _)))
        refine ⟨fun h4 => ?_, fun h4 => ?_⟩
        · skip
          have c4 := h4
          (simp only [bsX] at c4)
          have hs : shS2 (rA l i) = keyN 7 := if_pos c4
          refine ⟨_, _, _, _, (cf_KeyN (i := 7) (by decide)), ?_⟩
          repeat (refine Ob.mk ?_ ?_; focus ((exact Eq.refl _)))
          refine ⟨_, _, _, _, (cf_picked (n := (rA l i).k) (m := 4) hI.1.1 hI.1.2 (by decide)), ?_⟩
          repeat (refine Ob.mk ?_ ?_; focus ((exact Eq.refl _)))
          refine ⟨Nat, fun k => ⟨[(2, .own 1002 0), (3, .own 1003 0), (4, .osl 61 (mt l (i - 1) ++ gt l i k).length), (5, .i (i : Int)), (6, .own 1006 0), (7, .own 1007 0), (14, rawsE l), (15, .i (l.length : Int)), (16, .i (i : Int)), (51, .i (pk (rA l i).k 4)), (52, .i (k : Int))], [(1002, .box [.s [], .i 0, .nil] 25), (1003, .box [.s (keyN 0), .i (port0 l i), .osl 701003 (pS l (i - 1)).length] 25), (701003, .rz (pS l (i - 1)).length 5 (fun a b => peerC ((pS l (i - 1)).getD a peer0) b) 33 0), (61, .rz (mt l (i - 1) ++ gt l i k).length 2 (fun a b => netC ((mt l (i - 1) ++ gt l i k).getD a []) b) 36 0), (1006, .box [.i (rA l i).k, .i (rA l i).a, .i (rA l i).b, .s (rA l i).s] 44), (1007, .box [.s (keyN i), .s (shS2 (rA l i)), .s (endL.getD (pk (rA l i).a 5).toNat []), .i (pk (rA l i).b 100), .osl 701007 (gt l i k).length] 33), (701007, .rz (gt l i k).length 2 (fun a b => netC ((gt l i k).getD a []) b) 36 0)]⟩, fun k => (k : Int) ≤ pk (rA l i).k 4, fun k => (pk (rA l i).k 4).toNat - k, 0, g3, ?_, fun k hx2 => ?_⟩
          · skip
            repeat (refine Ob.mk ?_ ?_; (focus (first | (exact fun _ _ _ _ => rfl) | (exact congrArg List.length eM0.symm) | (exact eqN eM0.symm) | (rw [hs]; done) | (exact Eq.refl _) | omega)))
            trivial
          refine ⟨fun h5 => ?_, fun h5 => ?_⟩
          · skip
            have c5 := h5
            (simp only [bsX] at c5)
            have hk : (k : Int) < pk (rA l i).k 4 := by omega
            have hgl : (gt l i k).length ≤ k := gath_len (rA l i) (confSt l (i - 1)).1 k
            have hal : (mt l (i - 1) ++ gt l i k).length ≤ 1000 := by rw [List.length_append]; omega
            repeat (refine Ob.mk ?_ ?_; focus (omega))
            refine ⟨_, _, _, _, (cf_kNet (k := (rA l i).k) (a := wr64 ((rA l i).a + 5 * (k : Int))) (b := wr64 ((rA l i).b + (k : Int))) (s := []) hI.1 (wr64_in _) (wr64_in _)), ?_⟩
            repeat (refine Ob.mk ?_ ?_; focus ((exact Eq.refl _)))
            refine ⟨_, _, _, _, (cf_netHas (ns := mt l (i - 1) ++ gt l i k) (n := nsK (rA l i) k) hal netP_len), ?_⟩
            repeat (refine Ob.mk ?_ ?_; focus (first | (exact fun _ _ _ _ => rfl) | (exact Eq.refl _) | omega))
            refine ⟨fun h6 => ?_, fun h6 => ?_⟩
            · skip
              have c6 := h6
              (simp only [bsX] at c6)
              have hg : gt l i (k + 1) = gt l i k ++ [nsK (rA l i) k] := gath_T c6
              have hM : mt l (i - 1) ++ gt l i (k + 1) = (mt l (i - 1) ++ gt l i k) ++ [nsK (rA l i) k] := (congrArg (mt l (i - 1) ++ ·) hg).trans (List.append_assoc ..).symm
              have hl1 : (mt l (i - 1) ++ gt l i k).length + 1 = (mt l (i - 1) ++ gt l i (k + 1)).length := by rw [hM]; simp [Nat.add_assoc]
              have hl2 : (gt l i k).length + 1 = (gt l i (k + 1)).length := by rw [hg]; simp
              repeat (refine Ob.mk ?_ ?_; (focus (first | (exact Eq.refl _) | omega | (simp only [SrcE.len, Nat.zero_add, List.length_append, List.length_cons, List.length_nil]; omega))))
              refine ⟨k + 1, (by assumption), (by (simp only [SrcE.len, Nat.zero_add, List.length_append, List.length_cons, List.length_nil]; omega)), ?_⟩
              repeat (refine Ob.mk ?_ ?_; (focus (first | (exact hl1) | (exact hl2) | (exact nets_snoc rfl hM) | (exact nets_snoc rfl hg) | (exact fun _ _ _ _ => rfl) | (rw [hs]; done) | (exact Eq.refl _) | omega | (exact Nat.le_of_ble_eq_true rfl))))
              trivial
            · skip
              have c6 := h6
              (simp only [bsX] at c6)
              have hg : gt l i k = gt l i (k + 1) := (gath_F c6).symm
              have hM : mt l (i - 1) ++ gt l i k = mt l (i - 1) ++ gt l i (k + 1) := congrArg (mt l (i - 1) ++ ·) hg
              have hl1 := congrArg List.length hM
              have hl2 := congrArg List.length hg
              repeat (refine Ob.mk ?_ ?_; focus (omega))
              refine ⟨k + 1, (by assumption), (by (simp only [SrcE.len, Nat.zero_add, List.length_append, List.length_cons, List.length_nil]; omega)), ?_⟩
              repeat (refine Ob.mk ?_ ?_; (focus (first | (exact hl1) | (exact hl2) | (exact eqN hM) | (exact eqN hg) | (exact fun _ _ _ _ => rfl) | (rw [hs]; done) | (exact Eq.refl _) | omega)))
              trivial
          · skip
            have c5 := h5
            (simp only [bsX] at c5)
            obtain rfl : k = cntK (rA l i) := by unfold cntK; omega
            have hgl : (gE l i).length ≤ cntK (rA l i) := gath_len (rA l i) (confSt l (i - 1)).1 (cntK (rA l i))
            have hg32 : ∀ n ∈ gE l i, n.length ≤ 32 := gath_32 (rA l i) (confSt l (i - 1)).1 (cntK (rA l i))
            have hc3 : cntK (rA l i) ≤ 3 := by unfold cntK; omega
            have ha32 : ∀ n ∈ mt l (i - 1) ++ gE l i, n.length ≤ 32 := fun n h => (List.mem_append.1 h).elim (hSt.b32 n) (hg32 n)
            have hal : (mt l (i - 1) ++ gE l i).length ≤ 1000 := by rw [List.length_append]; omega
            refine ⟨_, _, _, _, (cf_nSort (ns := gE l i) (by omega) hg32), ?_⟩
            repeat (refine Ob.mk ?_ ?_; focus (first | (exact fun _ _ _ _ => rfl) | (exact Eq.refl _) | omega))
            refine ⟨_, _, _, _, (cf_picked (n := (rA l i).k) (m := 5) hI.1.1 hI.1.2 (by decide)), ?_⟩
            repeat (refine Ob.mk ?_ ?_; focus ((exact Eq.refl _)))
            refine ⟨fun h7 => ?_, fun h7 => ?_⟩
            · skip
              have c7 := h7
              (simp only [bsX] at c7)
              have hcM : mt l (i - 1) ++ gE l i = mt l (i + 1 - 1) := (confSt_T h1i c7).1.symm
              have hcP : pS l (i + 1 - 1) = pS l (i - 1) ++ [peerR (rA l i) i (gE l i)] := (confSt_T h1i c7).2
              have hcl : (pS l (i - 1)).length + 1 = (pS l (i + 1 - 1)).length := by rw [hcP]; simp
              repeat (refine Ob.mk ?_ ?_; (focus (first | (exact Eq.refl _) | omega | (simp only [SrcE.len, Nat.zero_add, List.length_append, List.length_cons, List.length_nil]; omega))))
              refine ⟨i + 1, (by assumption), (by (simp only [SrcE.len, Nat.zero_add, List.length_append, List.length_cons, List.length_nil]; omega)), ?_⟩
              repeat (refine Ob.mk ?_ ?_; (focus (first | (exact hcl) | (exact congrArg List.length hcM) | (exact eqN hcM) | (refine peers_snoc (p := peerR (rA l i) i (gE l i)) ?_ hcP; exact congrArg (fun n => [EV.s (keyN i), .s (shS2 (rA l i)), .s (endL.getD (pk (rA l i).a 5).toNat []), .i (pk (rA l i).b 100), EV.lz n 2 (fun a b => netC ((sortN (gE l i)).getD a []) b)]) (sortN_len (gE l i)).symm) | (exact fun _ _ _ _ => rfl) | (exact hpt) | (exact Eq.refl _) | omega | (exact Nat.le_of_ble_eq_true rfl))))
              trivial
            · skip
              have c7 := h7
              (simp only [bsX] at c7)
              have hcM : Dl l i (gE l i).length = mt l (i + 1 - 1) := (confSt_F h1i c7).1.symm
              have hcP : pS l (i - 1) = pS l (i + 1 - 1) := (confSt_F h1i c7).2.symm
              have hcl := congrArg List.length hcP
              refine ⟨Nat, fun k => ⟨[(2, .own 1002 0), (3, .own 1003 0), (4, .osl 61 (Dl l i k).length), (14, rawsE l), (15, .i (l.length : Int)), (16, .i (i : Int)), (97, .osl 701007 (gE l i).length), (98, .i ((gE l i).length : Int)), (99, .i (k : Int))], [(1002, .box [.s [], .i 0, .nil] 25), (1003, .box [.s (keyN 0), .i (port0 l i), .osl 701003 (pS l (i - 1)).length] 25), (701003, .rz (pS l (i - 1)).length 5 (fun a b => peerC ((pS l (i - 1)).getD a peer0) b) 33 0), (61, .rz (Dl l i k).length 2 (fun a b => netC ((Dl l i k).getD a []) b) 36 0), (701007, .rz (gE l i).length 2 (fun a b => netC ((sortN (gE l i)).getD a []) b) 36 0)]⟩, fun k => k ≤ (gE l i).length, fun k => (gE l i).length - k, 0, Nat.zero_le _, ?_, fun k hx3 => ?_⟩
              · skip
                repeat (refine Ob.mk ?_ ?_; focus (first | (exact fun _ _ _ _ => rfl) | (exact Eq.refl _) | omega))
                trivial
              refine ⟨fun h8 => ?_, fun h8 => ?_⟩
              · skip
                have c8 := h8
                (simp only [bsX] at c8)
                have hk : k < (gE l i).length := by omega
                have hD := Dl_next hk
                have hdl := delF_len ((sortN (gE l i)).take k) (mt l (i - 1) ++ gE l i)
                repeat (refine Ob.mk ?_ ?_; focus (first | assumption | omega))
                refine ⟨_, _, _, _, (cf_nDel (ns := Dl l i k) (n := (sortN (gE l i)).getD k []) (Nat.le_trans hdl hal) (delF_32 _ _ ha32)), ?_⟩
                repeat (refine Ob.mk ?_ ?_; focus (first | (exact fun _ _ _ _ => rfl) | (exact Eq.refl _) | omega))
                refine ⟨k + 1, (by assumption), (by (simp only [SrcE.len, Nat.zero_add, List.length_append, List.length_cons, List.length_nil]; omega)), ?_⟩
                repeat (refine Ob.mk ?_ ?_; focus (first | (exact congrArg List.length hD.symm) | (exact eqN hD.symm) | (exact fun _ _ _ _ => rfl) | (exact Eq.refl _) | omega))
                trivial
              · skip
                have c8 := h8
                (simp only [bsX] at c8)
                obtain rfl : k = (gE l i).length := by omega
                repeat (refine Ob.mk ?_ ?_; focus (omega))
                refine ⟨i + 1, (by assumption), (by (simp only [SrcE.len, Nat.zero_add, List.length_append, List.length_cons, List.length_nil]; omega)), ?_⟩
                repeat (refine Ob.mk ?_ ?_; focus (first | (exact hcl) | (exact congrArg List.length hcM) | (exact eqN hcM) | (exact eqP hcP) | (exact fun _ _ _ _ => rfl) | (exact hpt) | (exact Eq.refl _) | omega))
                trivial
        · skip
          have c4 := h4
          (simp only [bsX] at c4)
          have hs : shS2 (rA l i) = [] := if_neg c4
          refine ⟨_, _, _, _, (cf_picked (n := (rA l i).k) (m := 4) hI.1.1 hI.1.2 (by decide)), ?_⟩
          repeat (refine Ob.mk ?_ ?_; focus ((exact Eq.refl _)))
          refine ⟨Nat, fun k => ⟨[(2, .own 1002 0), (3, .own 1003 0), (4, .osl 61 (mt l (i - 1) ++ gt l i k).length), (5, .i (i : Int)), (6, .own 1006 0), (7, .own 1007 0), (14, rawsE l), (15, .i (l.length : Int)), (16, .i (i : Int)), (51, .i (pk (rA l i).k 4)), (52, .i (k : Int))], [(1002, .box [.s [], .i 0, .nil] 25), (1003, .box [.s (keyN 0), .i (port0 l i), .osl 701003 (pS l (i - 1)).length] 25), (701003, .rz (pS l (i - 1)).length 5 (fun a b => peerC ((pS l (i - 1)).getD a peer0) b) 33 0), (61, .rz (mt l (i - 1) ++ gt l i k).length 2 (fun a b => netC ((mt l (i - 1) ++ gt l i k).getD a []) b) 36 0), (1006, .box [.i (rA l i).k, .i (rA l i).a, .i (rA l i).b, .s (rA l i).s] 44), (1007, .box [.s (keyN i), .s (shS2 (rA l i)), .s (endL.getD (pk (rA l i).a 5).toNat []), .i (pk (rA l i).b 100), .osl 701007 (gt l i k).length] 33), (701007, .rz (gt l i k).length 2 (fun a b => netC ((gt l i k).getD a []) b) 36 0)]⟩, fun k => (k : Int) ≤ pk (rA l i).k 4, fun k => (pk (rA l i).k 4).toNat - k, 0, g3, ?_, fun k hx2 => ?_⟩
          · skip
            repeat (refine Ob.mk ?_ ?_; (focus (first | (exact fun _ _ _ _ => rfl) | (exact congrArg List.length eM0.symm) | (exact eqN eM0.symm) | (rw [hs]; done) | (exact Eq.refl _) | omega)))
            trivial
          refine ⟨fun h9 => ?_, fun h9 => ?_⟩
          · skip
            have c9 := h9
            (simp only [bsX] at c9)
            have hk : (k : Int) < pk (rA l i).k 4 := by omega
            have hgl : (gt l i k).length ≤ k := gath_len (rA l i) (confSt l (i - 1)).1 k
            have hal : (mt l (i - 1) ++ gt l i k).length ≤ 1000 := by rw [List.length_append]; omega
            repeat (refine Ob.mk ?_ ?_; focus (omega))
            refine ⟨_, _, _, _, (cf_kNet (k := (rA l i).k) (a := wr64 ((rA l i).a + 5 * (k : Int))) (b := wr64 ((rA l i).b + (k : Int))) (s := []) hI.1 (wr64_in _) (wr64_in _)), ?_⟩
            repeat (refine Ob.mk ?_ ?_; focus ((exact Eq.refl _)))
            refine ⟨_, _, _, _, (cf_netHas (ns := mt l (i - 1) ++ gt l i k) (n := nsK (rA l i) k) hal netP_len), ?_⟩
            repeat (refine Ob.mk ?_ ?_; focus (first | (exact fun _ _ _ _ => rfl) | (exact Eq.refl _) | omega))
            refine ⟨fun h10 => ?_, fun h10 => ?_⟩
            · skip
              have c10 := h10
              (simp only [bsX] at c10)
              have hg : gt l i (k + 1) = gt l i k ++ [nsK (rA l i) k] := gath_T c10
              have hM : mt l (i - 1) ++ gt l i (k + 1) = (mt l (i - 1) ++ gt l i k) ++ [nsK (rA l i) k] := (congrArg (mt l (i - 1) ++ ·) hg).trans (List.append_assoc ..).symm
              have hl1 : (mt l (i - 1) ++ gt l i k).length + 1 = (mt l (i - 1) ++ gt l i (k + 1)).length := by rw [hM]; simp [Nat.add_assoc]
              have hl2 : (gt l i k).length + 1 = (gt l i (k + 1)).length := by rw [hg]; simp
              repeat (refine Ob.mk ?_ ?_; (focus (first | (exact Eq.refl _) | omega | (simp only [SrcE.len, Nat.zero_add, List.length_append, List.length_cons, List.length_nil]; omega))))
              refine ⟨k + 1, (by assumption), (by (simp only [SrcE.len, Nat.zero_add, List.length_append, List.length_cons, List.length_nil]; omega)), ?_⟩
              repeat (refine Ob.mk ?_ ?_; (focus (first | (exact hl1) | (exact hl2) | (exact nets_snoc rfl hM) | (exact nets_snoc rfl hg) | (exact fun _ _ _ _ => rfl) | (rw [hs]; done) | (exact Eq.refl _) | omega | (exact Nat.le_of_ble_eq_true rfl))))
              trivial
            · skip
              have c10 := h10
              (simp only [bsX] at c10)
              have hg : gt l i k = gt l i (k + 1) := (gath_F c10).symm
              have hM : mt l (i - 1) ++ gt l i k = mt l (i - 1) ++ gt l i (k + 1) := congrArg (mt l (i - 1) ++ ·) hg
              have hl1 := congrArg List.length hM
              have hl2 := congrArg List.length hg
              repeat (refine Ob.mk ?_ ?_; focus (omega))
              refine ⟨k + 1, (by assumption), (by (simp only [SrcE.len, Nat.zero_add, List.length_append, List.length_cons, List.length_nil]; omega)), ?_⟩
              repeat (refine Ob.mk ?_ ?_; (focus (first | (exact hl1) | (exact hl2) | (exact eqN hM) | (exact eqN hg) | (exact fun _ _ _ _ => rfl) | (rw [hs]; done) | (exact Eq.refl _) | omega)))
              trivial
          · skip
            have c9 := h9
            (simp only [bsX] at c9)
            obtain rfl : k = cntK (rA l i) := by unfold cntK; omega
            have hgl : (gE l i).length ≤ cntK (rA l i) := gath_len (rA l i) (confSt l (i - 1)).1 (cntK (rA l i))
            have hg32 : ∀ n ∈ gE l i, n.length ≤ 32 := gath_32 (rA l i) (confSt l (i - 1)).1 (cntK (rA l i))
            have hc3 : cntK (rA l i) ≤ 3 := by unfold cntK; omega
            have ha32 : ∀ n ∈ mt l (i - 1) ++ gE l i, n.length ≤ 32 := fun n h => (List.mem_append.1 h).elim (hSt.b32 n) (hg32 n)
            have hal : (mt l (i - 1) ++ gE l i).length ≤ 1000 := by rw [List.length_append]; omega
            refine ⟨_, _, _, _, (cf_nSort (ns := gE l i) (by omega) hg32), ?_⟩
            repeat (refine Ob.mk ?_ ?_; focus (first | (exact fun _ _ _ _ => rfl) | (exact Eq.refl _) | omega))
            refine ⟨_, _, _, _, (cf_picked (n := (rA l i).k) (m := 5) hI.1.1 hI.1.2 (by decide)), ?_⟩
            repeat (refine Ob.mk ?_ ?_; focus ((exact Eq.refl _)))
            refine ⟨fun h11 => ?_, fun h11 => ?_⟩
            · skip
              have c11 := h11
              (simp only [bsX] at c11)
              have hcM : mt l (i - 1) ++ gE l i = mt l (i + 1 - 1) := (confSt_T h1i c11).1.symm
              have hcP : pS l (i + 1 - 1) = pS l (i - 1) ++ [peerR (rA l i) i (gE l i)] := (confSt_T h1i c11).2
              have hcl : (pS l (i - 1)).length + 1 = (pS l (i + 1 - 1)).length := by rw [hcP]; simp
              repeat (refine Ob.mk ?_ ?_; (focus (first | (exact Eq.refl _) | omega | (simp only [SrcE.len, Nat.zero_add, List.length_append, List.length_cons, List.length_nil]; omega))))
              refine ⟨i + 1, (by assumption), (by (simp only [SrcE.len, Nat.zero_add, List.length_append, List.length_cons, List.length_nil]; omega)), ?_⟩
              repeat (refine Ob.mk ?_ ?_; (focus (first | (exact hcl) | (exact congrArg List.length hcM) | (exact eqN hcM) | (refine peers_snoc (p := peerR (rA l i) i (gE l i)) ?_ hcP; exact congrArg (fun n => [EV.s (keyN i), .s (shS2 (rA l i)), .s (endL.getD (pk (rA l i).a 5).toNat []), .i (pk (rA l i).b 100), EV.lz n 2 (fun a b => netC ((sortN (gE l i)).getD a []) b)]) (sortN_len (gE l i)).symm) | (exact fun _ _ _ _ => rfl) | (exact hpt) | (exact Eq.refl _) | omega | (exact Nat.le_of_ble_eq_true rfl))))
              trivial
            · skip
              have c11 := h11
              (simp only [bsX] at c11)
              have hcM : Dl l i (gE l i).length = mt l (i + 1 - 1) := (confSt_F h1i c11).1.symm
              have hcP : pS l (i - 1) = pS l (i + 1 - 1) := (confSt_F h1i c11).2.symm
              have hcl := congrArg List.length hcP
              refine ⟨Nat, fun k => ⟨[(2, .own 1002 0), (3, .own 1003 0), (4, .osl 61 (Dl l i k).length), (14, rawsE l), (15, .i (l.length : Int)), (16, .i (i : Int)), (97, .osl 701007 (gE l i).length), (98, .i ((gE l i).length : Int)), (99, .i (k : Int))], [(1002, .box [.s [], .i 0, .nil] 25), (1003, .box [.s (keyN 0), .i (port0 l i), .osl 701003 (pS l (i - 1)).length] 25), (701003, .rz (pS l (i - 1)).length 5 (fun a b => peerC ((pS l (i - 1)).getD a peer0) b) 33 0), (61, .rz (Dl l i k).length 2 (fun a b => netC ((Dl l i k).getD a []) b) 36 0), (701007, .rz (gE l i).length 2 (fun a b => netC ((sortN (gE l i)).getD a []) b) 36 0)]⟩, fun k => k ≤ (gE l i).length, fun k => (gE l i).length - k, 0, Nat.zero_le _, ?_, fun k hx3 => ?_⟩
              · skip
                repeat (refine Ob.mk ?_ ?_; focus (first | (exact fun _ _ _ _ => rfl) | (exact Eq.refl _) | omega))
                trivial
              refine ⟨fun h12 => ?_, fun h12 => ?_⟩
              · skip
                have c12 := h12
                (simp only [bsX] at c12)
                have hk : k < (gE l i).length := by omega
                have hD := Dl_next hk
                have hdl := delF_len ((sortN (gE l i)).take k) (mt l (i - 1) ++ gE l i)
                repeat (refine Ob.mk ?_ ?_; focus (first | assumption | omega))
                refine ⟨_, _, _, _, (cf_nDel (ns := Dl l i k) (n := (sortN (gE l i)).getD k []) (Nat.le_trans hdl hal) (delF_32 _ _ ha32)), ?_⟩
                repeat (refine Ob.mk ?_ ?_; focus (first | (exact fun _ _ _ _ => rfl) | (exact Eq.refl _) | omega))
                refine ⟨k + 1, (by assumption), (by (simp only [SrcE.len, Nat.zero_add, List.length_append, List.length_cons, List.length_nil]; omega)), ?_⟩
                repeat (refine Ob.mk ?_ ?_; focus (first | (exact congrArg List.length hD.symm) | (exact eqN hD.symm) | (exact fun _ _ _ _ => rfl) | (exact Eq.refl _) | omega))
                trivial
              · skip
                have c12 := h12
                (simp only [bsX] at c12)
                obtain rfl : k = (gE l i).length := by omega
                repeat (refine Ob.mk ?_ ?_; focus (omega))
                refine ⟨i + 1, (by assumption), (by (simp only [SrcE.len, Nat.zero_add, List.length_append, List.length_cons, List.length_nil]; omega)), ?_⟩
                repeat (refine Ob.mk ?_ ?_; focus (first | (exact hcl) | (exact congrArg List.length hcM) | (exact eqN hcM) | (exact eqP hcP) | (exact fun _ _ _ _ => rfl) | (exact hpt) | (exact Eq.refl _) | omega))
                trivial
  · skip
    have c1 := h1
    (simp only [bsX] at c1)
    have hz : pS l (i - 1) = (confR l).ps := by show pS l (i - 1) = pS l (min (l.length - 1) 6); rw [show min (l.length - 1) 6 = i - 1 from by omega]
    have hpo : port0 l i = (confR l).port := by show port0 l i = port0 l l.length; rw [show i = l.length from by omega]
    repeat (refine Ob.mk ?_ ?_; focus (first | (exact hpo) | (exact congrArg List.length hz) | (exact eqP hz) | (exact Eq.refl _)))
    trivial
end Go.Proofs.YtcebndkiagbddaaGreatDoor

namespace Go.Proofs.YtcebndkiagbddaaGreatDoor
open Go.RowKit Go.Lib
set_option linter.unusedVariables false
set_option linter.unusedSimpArgs false

def sameP (p q : PeerS) : Bool := (((decide (p.k = q.k) && decide (p.s = q.s)) && decide (p.e = q.e)) && decide (p.a = q.a)) && decide (p.ns = q.ns)
theorem sameP_iff {p q : PeerS} : sameP p q = true ↔ p = q := by
  unfold sameP
  simp only [Bool.and_eq_true, decide_eq_true_eq]
  constructor
  · rintro ⟨⟨⟨⟨h1, h2⟩, h3⟩, h4⟩, h5⟩
    cases p; cases q
    simp only at h1 h2 h3 h4 h5
    subst h1 h2 h3 h4 h5; rfl
  · rintro rfl; exact ⟨⟨⟨⟨rfl, rfl⟩, rfl⟩, rfl⟩, rfl⟩
def samePs : List PeerS → List PeerS → Bool
  | [], [] => true
  | p :: ps, q :: qs => sameP p q && samePs ps qs
  | _, _ => false
theorem samePs_iff : ∀ {ps qs : List PeerS}, samePs ps qs = true ↔ ps = qs
  | [], [] => ⟨fun _ => rfl, fun _ => rfl⟩
  | [], q :: qs => ⟨fun h => (by cases h), fun h => (by cases h)⟩
  | p :: ps, [] => ⟨fun h => (by cases h), fun h => (by cases h)⟩
  | p :: ps, q :: qs => by
    unfold samePs
    rw [Bool.and_eq_true, sameP_iff, samePs_iff, List.cons.injEq]
def sameC (a b : ConfS) : Bool := (decide (a.k = b.k) && decide (a.port = b.port)) && samePs a.ps b.ps
theorem sameC_iff {a b : ConfS} : sameC a b = true ↔ a = b := by
  unfold sameC
  rw [Bool.and_eq_true, Bool.and_eq_true, decide_eq_true_eq, decide_eq_true_eq, samePs_iff]
  constructor
  · rintro ⟨⟨h1, h2⟩, h3⟩
    cases a; cases b
    simp only at h1 h2 h3
    subst h1 h2 h3; rfl
  · rintro rfl; exact ⟨⟨rfl, rfl⟩, rfl⟩
theorem list_ext_at {A : Type} {d : A} {l m : List A} (hl : l.length = m.length) (h : ∀ i, i < l.length → l.getD i d = m.getD i d) : l = m := by
  refine List.ext_getElem hl fun i h1 h2 => ?_
  have := h i h1
  rw [List.getD_eq_getElem?_getD, List.getD_eq_getElem?_getD, List.getElem?_eq_getElem h1, List.getElem?_eq_getElem h2] at this
  exact this
theorem ps_ne_len {ps qs : List PeerS} (h : ¬ ps.length = qs.length) : samePs ps qs = false := by
  cases e : samePs ps qs with
  | false => rfl
  | true => exact absurd (congrArg List.length (samePs_iff.1 e)) h
theorem ps_ne_at {ps qs : List PeerS} {i : Nat} (h : sameP (ps.getD i peer0) (qs.getD i peer0) = false) : samePs ps qs = false := by
  cases e : samePs ps qs with
  | false => rfl
  | true =>
    rw [samePs_iff.1 e, sameP_iff.2 rfl] at h
    cases h
theorem ps_eq_all {ps qs : List PeerS} (hl : ps.length = qs.length) (h : ∀ j, j < ps.length → sameP (ps.getD j peer0) (qs.getD j peer0) = true) : samePs ps qs = true :=
  samePs_iff.2 (list_ext_at hl fun i hi => sameP_iff.1 (h i hi))
set_option maxRecDepth 100000 in
set_option maxHeartbeats 4000000 in
theorem cf_nsEq {ns ms : List (List Bool)} (hl : ns.length ≤ 1000) (hn : ∀ x ∈ ns, x.length ≤ 32) (hm : ms.length ≤ 1000) : Cf Tryz.prog 68 [] [netsE ns, netsE ms] [] (.b (decide (ns = ms))) := by
  refine Cf.introR tabT {} (DR _ _ _ tabT {}) (by kernel_rfl) tab_ok Tryz.func68 Tryz.ntmps68 rfl rfl (DR_ok tab_ok (by kernel_rfl)) (by kernel_rfl) ?_
  refine ⟨fun h1 => ?_, fun h1 => ?_⟩
  · skip
    have c1 := h1
    (simp only [bsX] at c1)
    have hR : decide (ns = ms) = false := decide_eq_false fun e => by (rw [e] at c1; omega)
    repeat (refine Ob.mk ?_ ?_; focus ((exact hR.symm)))
    trivial
  · skip
    have c1 := h1
    (simp only [bsX] at c1)
    have hle : ns.length = ms.length := by omega
    refine ⟨Nat, fun i => ⟨[(0, netsE ns), (1, netsE ms), (12, .i (ns.length : Int)), (13, .i (i : Int))], []⟩, fun i => i ≤ ns.length ∧ ∀ j, j < i → ns.getD j [] = ms.getD j [], fun i => ns.length - i, 0, ⟨Nat.zero_le _, fun j hj => absurd hj (Nat.not_lt_zero _)⟩, ?_, fun i hx1 => ?_⟩
    · skip
      repeat (refine Ob.mk ?_ ?_; (focus (first | (exact Eq.refl _) | (intro hg; ((intro hq; ((simp_all; done))))))))
      trivial
    refine ⟨fun h2 => ?_, fun h2 => ?_⟩
    · skip
      have c2 := h2
      (simp only [bsX] at c2)
      have hi : i < ns.length := by omega
      refine ⟨[0, 0, 3, 7, 0, 0, 48, 112, 255], by kernel_rfl, ?_⟩
      repeat (refine Ob.mk ?_ ?_; focus (first | assumption | omega))
      refine ⟨fun h3 => ?_, fun h3 => ?_⟩
      · skip
        have c3 := h3
        (simp only [bsX] at c3)
        have hR : decide (ns = ms) = false := decide_eq_false fun e => by (subst e; simp at h3)
        repeat (refine Ob.mk ?_ ?_; focus ((exact hR.symm)))
        trivial
      · skip
        have c3 := h3
        (simp only [bsX] at c3)
        have hE : ns.getD i [] = ms.getD i [] := of_decide_eq_true ((netEqB (nsAt_32 hn i)).symm.trans (by simpa using h3))
        have hnx : i + 1 ≤ ns.length ∧ ∀ j, j < i + 1 → ns.getD j [] = ms.getD j [] := ⟨hi, fun j hj => (Nat.lt_or_ge j i).elim (hx1.2 j) fun q => by rw [show j = i from by omega]; exact hE⟩
        repeat (refine Ob.mk ?_ ?_; focus (omega))
        refine ⟨i + 1, (by assumption), (by (simp only [SrcE.len, Nat.zero_add, List.length_append, List.length_cons, List.length_nil]; omega)), ?_⟩
        repeat (refine Ob.mk ?_ ?_; (focus (first | (exact Eq.refl _) | (intro hg; ((intro hq; ((simp_all; done))))))))
        trivial
    · skip
      have c2 := h2
      (simp only [bsX] at c2)
      have hR : decide (ns = ms) = true := decide_eq_true (list_ext_at hle fun j hj => hx1.2 j (by omega))
      repeat (refine Ob.mk ?_ ?_; focus ((exact hR.symm)))
      trivial
theorem cf_nsEqK {p q : PeerS} (hp : PeerOk p) (hq : PeerOk q) : Cf Tryz.prog 68 [] [netsE p.ns, netsE q.ns] [] (.b (decide (p.ns = q.ns))) := cf_nsEq (Nat.le_trans hp.nl (by decide)) hp.nb (Nat.le_trans hq.nl (by decide))
set_option maxRecDepth 100000 in
set_option maxHeartbeats 4000000 in
theorem cf_samePK {p q : PeerS} (hp : PeerOk p) (hq : PeerOk q) : Cf Tryz.prog 67 [] [peerE p, peerE q] [] (.b (sameP p q)) := by
  refine Cf.introR tabT {} D0 (by kernel_rfl) tab_ok Tryz.func67 Tryz.ntmps67 rfl rfl (D0_ok) (by kernel_rfl) ?_
  repeat (refine Ob.mk ?_ ?_; focus (first | (exact fun hg => beq_t hg) | (exact fun hg => hg)))
  refine gx (fun hc => (cf_nsEqK hp hq)) (fun hk => ⟨hk, ?_⟩)
  repeat (refine Ob.mk ?_ ?_; (focus (first | (exact Eq.refl _) | (intro _; exact Eq.refl _) | (exact fun hg => beq_t hg) | (exact fun hg => hg) | (intro hg; ((intro hq; ((simp_all; done))))))))
  trivial
set_option maxRecDepth 100000 in
set_option maxHeartbeats 4000000 in
theorem cf_samePsKO {ps qs : List PeerS} (hl : ps.length ≤ 1000) (hp : ∀ p ∈ ps, PeerOk p) (hq : ∀ p ∈ qs, PeerOk p) : Cf Tryz.prog 66 [] [peersE ps, peersE qs, .v (.func (.func 67) #[] #[])] [] (.b (samePs ps qs)) := by
  refine Cf.introR tabT {} D0 (by kernel_rfl) tab_ok Tryz.func66 Tryz.ntmps66 rfl rfl (D0_ok) (by kernel_rfl) ?_
  refine ⟨fun h1 => ?_, fun h1 => ?_⟩
  · skip
    have c1 := h1
    (simp only [bsX] at c1)
    have hR := ps_ne_len (ps := ps) (qs := qs) (by omega)
    repeat (refine Ob.mk ?_ ?_; focus ((exact hR.symm)))
    trivial
  · skip
    have c1 := h1
    (simp only [bsX] at c1)
    have hle : ps.length = qs.length := by omega
    refine ⟨Nat, fun i => ⟨[(1, peersE qs), (2, .v (.func (.func 67) #[] #[])), (15, peersE ps), (16, .i (ps.length : Int)), (17, .i (i : Int))], []⟩, fun i => i ≤ ps.length ∧ ∀ j, j < i → sameP (ps.getD j peer0) (qs.getD j peer0) = true, fun i => ps.length - i, 0, ⟨Nat.zero_le _, fun j hj => absurd hj (Nat.not_lt_zero _)⟩, ?_, fun i hx1 => ?_⟩
    · skip
      repeat (refine Ob.mk ?_ ?_; (focus (first | (exact Eq.refl _) | (intro hg; ((intro hq; ((simp_all; done))))))))
      trivial
    refine ⟨fun h2 => ?_, fun h2 => ?_⟩
    · skip
      have c2 := h2
      (simp only [bsX] at c2)
      have hi : i < ps.length := by omega
      repeat (refine Ob.mk ?_ ?_; focus (first | assumption | omega))
      refine ⟨_, _, _, _, (cf_samePK (p := ps.getD i peer0) (q := qs.getD i peer0) (hp _ (pA_mem (c := ⟨[], 0, ps⟩) hi)) (hq _ (pA_mem (c := ⟨[], 0, qs⟩) (show i < qs.length by omega)))), ?_⟩
      repeat (refine Ob.mk ?_ ?_; (focus (first | (exact Eq.refl _) | (intro hg; ((intro hq; ((simp_all; done))))))))
      refine ⟨fun h3 => ?_, fun h3 => ?_⟩
      · skip
        have c3 := h3
        (simp only [bsX] at c3)
        have hR := ps_ne_at (ps := ps) (qs := qs) (i := i) (by simpa using h3)
        repeat (refine Ob.mk ?_ ?_; focus ((exact hR.symm)))
        trivial
      · skip
        have c3 := h3
        (simp only [bsX] at c3)
        have hE : sameP (ps.getD i peer0) (qs.getD i peer0) = true := by simpa using h3
        have hnx : i + 1 ≤ ps.length ∧ ∀ j, j < i + 1 → sameP (ps.getD j peer0) (qs.getD j peer0) = true := ⟨hi, fun j hj => (Nat.lt_or_ge j i).elim (hx1.2 j) fun q => by rw [show j = i from by omega]; exact hE⟩
        repeat (refine Ob.mk ?_ ?_; focus (omega))
        refine ⟨i + 1, (by assumption), (by (simp only [SrcE.len, Nat.zero_add, List.length_append, List.length_cons, List.length_nil]; omega)), ?_⟩
        repeat (refine Ob.mk ?_ ?_; (focus (first | (exact Eq.refl _) | (intro hg; ((intro hq; ((simp_all; done))))))))
        trivial
    · skip
      have c2 := h2
      (simp only [bsX] at c2)
      have hR := ps_eq_all hle fun j hj => hx1.2 j (by omega)
      repeat (refine Ob.mk ?_ ?_; focus ((exact hR.symm)))
      trivial
set_option maxRecDepth 100000 in
set_option maxHeartbeats 4000000 in
theorem cf_sameK {a b : ConfS} (ha : ConfOk a) (hb : ConfOk b) : Cf Tryz.prog 24 [] [confE a, confE b] [] (.b (sameC a b)) := by
  refine Cf.introR tabT {} D0 (by kernel_rfl) tab_ok Tryz.func24 Tryz.ntmps24 rfl rfl (D0_ok) (by kernel_rfl) ?_
  repeat (refine Ob.mk ?_ ?_; focus (first | (exact fun hg => beq_t hg) | (exact fun hg => hg)))
  refine gx (fun hc => (cf_samePsKO (ps := a.ps) (qs := b.ps) (Nat.le_trans ha.pl (by decide)) (fun p hp => (ha.ps p hp).1) (fun p hp => (hb.ps p hp).1))) (fun hk => ⟨hk, ?_⟩)
  repeat (refine Ob.mk ?_ ?_; (focus (first | (exact Eq.refl _) | (intro _; exact Eq.refl _) | (exact fun hg => beq_t hg) | (exact fun hg => hg) | (intro hg; ((intro hq; ((simp_all; done))))))))
  trivial
end Go.Proofs.YtcebndkiagbddaaGreatDoor

namespace Go.Proofs.YtcebndkiagbddaaGreatDoor
open Go.RowKit Go.Lib
set_option linter.unusedVariables false
set_option linter.unusedSimpArgs false

def stc (s : SetS) : Nat → EV
  | 0 => .i s.k
  | 1 => .s s.t
  | 2 => .i s.n
  | 3 => .u32 (adr s.p)
  | _ => .i (s.p.length : Int)
abbrev stF (L : List SetS) : Nat → Nat → EV := fun i j => stc (L.getD i set0) j
abbrev setsE (L : List SetS) : EV := .lz L.length 5 (stF L)
theorem j5 {P : Nat → Prop} (h0 : P 0) (h1 : P 1) (h2 : P 2) (h3 : P 3) (h4 : P 4) : ∀ j, j < 5 → P j
  | 0, _ => h0
  | 1, _ => h1
  | 2, _ => h2
  | 3, _ => h3
  | 4, _ => h4
theorem lz_av {n sz : Nat} {F G : Nat → Nat → EV} (h : ∀ i, i < n → ∀ j, j < sz → (F i j).pv = (G i j).pv) : (EV.lz n sz F).av = (EV.lz n sz G).av := by
  unfold EV.av EV.pv
  refine congrArg (fun l => AV.p (PV.sl l n)) ?_
  have e : ∀ i ∈ List.range n, (List.range sz).map (fun j => (F i j).pv) = (List.range sz).map fun j => (G i j).pv := fun i hi =>
    List.map_congr_left fun j hj => h i (List.mem_range.1 hi) j (List.mem_range.1 hj)
  rw [List.flatMap_def, List.flatMap_def, List.map_congr_left e]
/-- Rows of five cells, one by one. -/
def rowsEq (F G : Nat → Nat → EV) : Nat → Prop
  | 0 => True
  | n + 1 => (F n 0 = G n 0 ∧ F n 1 = G n 1 ∧ F n 2 = G n 2 ∧ F n 3 = G n 3 ∧ F n 4 = G n 4) ∧ rowsEq F G n
theorem rows_n {F G : Nat → Nat → EV} : ∀ {N : Nat}, rowsEq F G N → ∀ i, i < N → ∀ j, j < 5 → F i j = G i j
  | 0, _, i, hi, _, _ => absurd hi (Nat.not_lt_zero _)
  | n + 1, h, i, hi, j, hj => by
    by_cases e : i = n
    · subst e
      exact j5 (P := fun j => F i j = G i j) h.1.1 h.1.2.1 h.1.2.2.1 h.1.2.2.2.1 h.1.2.2.2.2 j hj
    · exact rows_n h.2 i (by omega) j hj
end Go.Proofs.YtcebndkiagbddaaGreatDoor

namespace Go.Proofs.YtcebndkiagbddaaGreatDoor
open Go.RowKit Go.Lib
set_option linter.unusedVariables false
set_option linter.unusedSimpArgs false

abbrev prt (n : Int) : SetS := ⟨2, [], n, []⟩
theorem hl3Z {c : ConfS} (h : ConfOk c) : c.ps.length ≤ 1000 := Nat.le_trans h.pl (by decide)
theorem h86Z {c : ConfS} (h : ConfOk c) : ∀ p ∈ c.ps, p.ns.length ≤ 1000000 := fun p hp => Nat.le_trans (h.ps p hp).1.nl (by decide)
abbrev setEZ (s : SetS) : EV := .agg [.i s.k, .s s.t, .i s.n, .u32 (adr s.p), .i (s.p.length : Int)]
set_option maxRecDepth 100000 in
set_option maxHeartbeats 4000000 in
theorem cf_CopyS2O {c : ConfS} (h : ConfOk c) : Cf Tryz.prog 64 [] [confE c] [] (confE c) := by
  have hl := hl3Z h
  have h8 := h86Z h
  refine Cf.introR tabT {} D0 (by kernel_rfl) tab_ok Tryz.func64 Tryz.ntmps64 rfl rfl (D0_ok) (by kernel_rfl) ?_
  repeat (refine Ob.mk ?_ ?_; focus (omega))
  refine ⟨Nat, fun i => ⟨[(1, .own 1001 0), (2, .own 1002 0), (3, .osl 61 i), (11, peersE c.ps), (12, .i (c.ps.length : Int)), (13, .i (i : Int))], [(1001, .box [.s c.k, .i c.port, peersE c.ps] 25), (1002, .box [.s [], .i 0, .nil] 25), (61, .rz i 5 (fun a b => peerC (c.ps.getD a peer0) b) 33 0)]⟩, fun i => i ≤ c.ps.length, fun i => c.ps.length - i, 0, Nat.zero_le _, ?_, fun i hx1 => ?_⟩
  · skip
    repeat (refine Ob.mk ?_ ?_; (focus (first | (exact Eq.refl _) | omega | (intro hg; ((intro hq; ((simp_all; done))))))))
    trivial
  refine ⟨fun h1 => ?_, fun h1 => ?_⟩
  · skip
    have c1 := h1
    (simp only [bsX] at c1)
    have hi : i < c.ps.length := by omega
    repeat (refine Ob.mk ?_ ?_; focus (first | assumption | omega))
    refine ⟨_, _, _, _, (cf_nClone (ns := (c.ps.getD i peer0).ns) (h8 _ (pA_mem hi))), ?_⟩
    repeat (refine Ob.mk ?_ ?_; (focus (first | (exact Eq.refl _) | omega | (simp only [SrcE.len, Nat.zero_add, List.length_append, List.length_cons, List.length_nil]; omega) | (intro hg; ((intro hq; ((simp_all; done))))))))
    refine ⟨i + 1, (by assumption), (by (simp only [SrcE.len, Nat.zero_add, List.length_append, List.length_cons, List.length_nil]; omega)), ?_⟩
    repeat (refine Ob.mk ?_ ?_; (focus (first | (exact ln_snoc (fun _ _ _ _ => rfl) (p5 (Eq.refl _) (Eq.refl _) (Eq.refl _) (Eq.refl _) (Eq.refl _))) | (exact Eq.refl _) | (exact Nat.le_of_ble_eq_true rfl) | (intro hg; ((intro hq; ((simp_all; done))))))))
    trivial
  · skip
    have c1 := h1
    (simp only [bsX] at c1)
    repeat (refine Ob.mk ?_ ?_; (focus (first | (exact Eq.refl _) | omega | (intro hg; ((intro hq; ((simp_all; done))))))))
    trivial
set_option maxRecDepth 100000 in
set_option maxHeartbeats 4000000 in
theorem cf_pMostO  : Cf Tryz.prog 110 [] [.i 2] [] (.i 65535) := by
  refine Cf.introR tabT {} D0 (by kernel_rfl) tab_ok Tryz.func110 Tryz.ntmps110 rfl rfl (D0_ok) (by kernel_rfl) ?_
  refine knT ?_
  repeat (refine Ob.mk ?_ ?_; focus ((exact Eq.refl _)))
  trivial
set_option maxRecDepth 100000 in
set_option maxHeartbeats 4000000 in
theorem cf_bChkPO {n : Int} (h : 0 ≤ n ∧ n ≤ 65535) : Cf Tryz.prog 69 [] [setEZ (prt n)] [] (.i 0) := by
  refine Cf.introR tabT {} (DR _ _ _ tabT {}) (by kernel_rfl) tab_ok Tryz.func69 Tryz.ntmps69 rfl rfl (DR_ok tab_ok (by kernel_rfl)) (by kernel_rfl) ?_
  repeat (refine Ob.mk ?_ ?_; (focus (((intro _; exact Eq.refl _)))))
  refine knF ?_
  refine ⟨[0, 1, 3, 7, 0, 16, 48, 7, 143, 511], by kernel_rfl, ?_⟩
  refine ⟨_, _, _, _, cf_pMostO, ?_⟩
  repeat (refine Ob.mk ?_ ?_; focus ((exact Eq.refl _)))
  refine knF ?_
  refine knF ?_
  refine knF ?_
  refine knF ?_
  repeat (refine Ob.mk ?_ ?_; (focus (first | (intro _; exact Eq.refl _) | (exact fun _ _ => Eq.refl _) | (exact fun hg => beq_t hg) | (intro hg; ((intro hq; assumption))))))
  refine knF ?_
  refine knF ?_
  refine knF ?_
  refine knF ?_
  refine knF ?_
  refine knF ?_
  refine ⟨[0, 1, 3, 7, 15, 31, 63, 127, 63, 319, 831, 2047, 4095, 8191], by kernel_rfl, ?_⟩
  repeat (refine Ob.mk ?_ ?_; (focus (first | (intro _; exact Eq.refl _) | (exact fun hg => hg))))
  refine gx (fun hc => cf_pMostO) (fun hk => ⟨hk, ?_⟩)
  repeat (refine Ob.mk ?_ ?_; (focus (first | (intro _; exact Eq.refl _) | (exact fun hg => hg) | (intro hg; ((intro hq; exact and_i hg (beq_f hq)))))))
  refine ⟨fun h12 => ?_, fun h12 => ?_⟩
  · skip
    (simp only [Int.reduceToNat, UInt8.reduceOfNat] at h12)
    have c12 := h12
    (simp only [bsX] at c12)
    exact absurd c12 (by omega)
  · skip
    (simp only [Int.reduceToNat, UInt8.reduceOfNat] at h12)
    have c12 := h12
    (simp only [bsX] at c12)
    repeat (refine Ob.mk ?_ ?_; focus ((exact Eq.refl _)))
    trivial
set_option maxRecDepth 100000 in
set_option maxHeartbeats 4000000 in
theorem cf_One2KO {c : ConfS} {at_ : List UInt8} {n : Int} (h : ConfOk c) (hs : 0 ≤ n ∧ n ≤ 65535) (ho : ConfOk ⟨c.k, n, c.ps⟩) : Cf Tryz.prog 26 [] [confE c, .s at_, setEZ (prt n)] [(60, rK c.ps.length c.ps nmK), (7000, dK (c.ps) 0), (7001, dK (c.ps) 1), (7002, dK (c.ps) 2), (7003, dK (c.ps) 3), (7004, dK (c.ps) 4), (7005, dK (c.ps) 5)] (.tup [.agg [.s c.k, .i n, .osl 60 c.ps.length], .s [], .i 0]) := by
  have hpl := h.pl
  refine Cf.introR tabT {} D0 (by kernel_rfl) tab_ok Tryz.func26 Tryz.ntmps26 rfl rfl (D0_ok) (by kernel_rfl) ?_
  refine ⟨_, _, _, _, (cf_ConfCheck h), ?_⟩
  repeat (refine Ob.mk ?_ ?_; focus (first | (exact fun _ _ _ _ => rfl) | (exact Eq.refl _)))
  refine knF ?_
  refine ⟨_, _, _, _, (cf_bChkPO hs), ?_⟩
  repeat (refine Ob.mk ?_ ?_; focus ((exact Eq.refl _)))
  refine knF ?_
  refine ⟨_, _, _, _, (cf_CopyF (c := c) (hl3Z h) (h86Z h)), ?_⟩
  repeat (refine Ob.mk ?_ ?_; focus (first | (exact fun _ _ _ _ => rfl) | (exact Eq.refl _)))
  refine ⟨_, _, _, _, (cf_one2O (c := c) (at_ := at_) (n := n)), ?_⟩
  repeat (refine Ob.mk ?_ ?_; focus (first | (exact fun _ _ _ _ => rfl) | (exact Eq.refl _) | omega))
  refine knF ?_
  refine ⟨_, _, _, _, (cf_CopyKO (c := ⟨c.k, n, c.ps⟩) h.pl (h86Z ho)), ?_⟩
  repeat (refine Ob.mk ?_ ?_; focus (first | (exact fun _ _ _ _ => rfl) | (exact Eq.refl _) | omega))
  trivial
set_option maxRecDepth 100000 in
set_option maxHeartbeats 4000000 in
theorem cf_RunKO {c : ConfS} {n : Int} (h : ConfOk c) (hs : 0 ≤ n ∧ n ≤ 65535) (ho : ConfOk ⟨c.k, n, c.ps⟩) : Cf Tryz.prog 22 [] [confE c, setsE [prt n]] [(60, rK c.ps.length c.ps nmK), (7000, dK (c.ps) 0), (7001, dK (c.ps) 1), (7002, dK (c.ps) 2), (7003, dK (c.ps) 3), (7004, dK (c.ps) 4), (7005, dK (c.ps) 5)] (.tup [.agg [.s c.k, .i n, .osl 60 c.ps.length], .i 0, .i 0]) := by
  have hpl := h.pl
  refine Cf.introR tabT {} D0 (by kernel_rfl) tab_ok Tryz.func22 Tryz.ntmps22 rfl rfl (D0_ok) (by kernel_rfl) ?_
  refine ⟨_, _, _, _, (cf_ConfCheck h), ?_⟩
  repeat (refine Ob.mk ?_ ?_; focus (first | (exact fun _ _ _ _ => rfl) | (exact Eq.refl _)))
  refine knF ?_
  refine knF ?_
  refine ⟨_, _, _, _, (cf_CopyS2O h), ?_⟩
  repeat (refine Ob.mk ?_ ?_; focus (first | (exact fun _ _ _ _ => rfl) | (exact Eq.refl _)))
  refine ⟨Bool, fun b => (bif b then ⟨[(4, .own 1004 0), (8, .own 1008 0), (9, .s []), (27, setsE [prt n]), (28, .i 1), (29, .i 1)], [(1004, .box [.s [], .i 0, .nil] 25), (1008, .box [.s c.k, .i n, .osl 61 c.ps.length] 25), (61, rK c.ps.length c.ps nmK), (7000, dK (c.ps) 0), (7001, dK (c.ps) 1), (7002, dK (c.ps) 2), (7003, dK (c.ps) 3), (7004, dK (c.ps) 4), (7005, dK (c.ps) 5)]⟩ else ⟨[(4, .own 1004 0), (8, .own 1008 0), (9, .s []), (27, setsE [prt n]), (28, .i 1), (29, .i 0)], [(1004, .box [.s [], .i 0, .nil] 25), (1008, .box [.s c.k, .i c.port, peersE c.ps] 25)]⟩), fun b => True, fun b => bif b then 0 else 1, false, trivial, ?_, fun b hx1 => ?_⟩
  · skip
    repeat (refine Ob.mk ?_ ?_; focus (first | (exact fun _ _ _ _ => rfl) | (exact Eq.refl _)))
    trivial
  cases b
  · skip
    refine ⟨fun h3 => ?_, fun h3 => ?_⟩
    · skip
      have c3 := h3
      (simp only [bsX] at c3)
      repeat (refine Ob.mk ?_ ?_; (focus (first | (exact Nat.le_of_ble_eq_true rfl) | (simp only [SrcE.len, Nat.zero_add, List.length_append, List.length_cons, List.length_nil]; omega))))
      refine ⟨_, _, _, _, (cf_One2KO (at_ := []) h hs ho), ?_⟩
      repeat (refine Ob.mk ?_ ?_; focus (first | (exact fun _ _ _ _ => rfl) | (exact Eq.refl _)))
      refine ⟨fun h4 => ?_, fun h4 => ?_⟩
      · skip
        (simp only [Int.reduceToNat, UInt8.reduceOfNat] at h4)
        have c4 := h4
        (simp only [bsX] at c4)
        exact absurd h4 (by decide)
      · skip
        (simp only [Int.reduceToNat, UInt8.reduceOfNat] at h4)
        have c4 := h4
        (simp only [bsX] at c4)
        repeat (refine Ob.mk ?_ ?_; focus (omega))
        refine ⟨true, (by assumption), (by (exact Nat.le_of_ble_eq_true rfl)), ?_⟩
        repeat (refine Ob.mk ?_ ?_; focus (first | (exact fun _ _ _ _ => rfl) | (exact Eq.refl _) | omega))
        trivial
    · skip
      have c3 := h3
      (simp only [bsX] at c3)
      exact absurd h3 (by decide)
  · skip
    refine ⟨fun h3 => ?_, fun h3 => ?_⟩
    · skip
      have c3 := h3
      (simp only [bsX] at c3)
      exact absurd h3 (by decide)
    · skip
      have c3 := h3
      (simp only [bsX] at c3)
      repeat (refine Ob.mk ?_ ?_; focus (first | (exact fun _ _ _ _ => rfl) | (exact Eq.refl _) | omega))
      trivial
/-- A cell of a setting, the address as a plain number. -/
def stwZ (s : SetS) : Nat → EV
  | 3 => .v (.int .u32 ((adr s.p).toNat : Int))
  | j => stc s j
theorem stw_pvZ (s : SetS) : ∀ j, j < 5 → (stwZ s j).pv = (stc s j).pv := by
  intro j hj
  match j, hj with
  | 0, _ => rfl
  | 1, _ => rfl
  | 2, _ => rfl
  | 3, _ => rfl
  | 4, _ => rfl
abbrev stWZ (L : List SetS) : Nat → Nat → EV := fun i j => stwZ (L.getD i set0) j
theorem setsW_avZ (L : List SetS) : (EV.lz L.length 5 (stWZ L)).av = (setsE L).av := lz_av fun i _ j hj => stw_pvZ (L.getD i set0) j hj
theorem Cf.arg2Z {P : Program} {f : FuncId} {hin hout : List (Nat × EB)} {r u x y : EV} (h : x.av = y.av) (k : Cf P f hin [u, x] hout r) : Cf P f hin [u, y] hout r := by
  unfold Cf Ct at k ⊢
  have e : avL [u, x] = avL [u, y] := congrArg (fun z => [u.av, z]) h
  rw [← e]; exact k
/-- The row of peers, behind so many rounds. -/
def gA (ps : List PeerS) : Nat → Nat → Nat → EV
  | 0 => fun a b => peerK (ps.getD a peer0) a b
  | i + 1 => stZ (gA ps i) i 3 [.i (-1)]
set_option maxRecDepth 100000 in
set_option maxHeartbeats 4000000 in
theorem cf_ApplyOwnO {l : List RawS} {r : RawS} {C : ConfS} (hl : ∀ x ∈ l, x.inn) (hn : (l.length : Int) ≤ 9223372036854775807) (hr : r.inn) (eC : confR l = C) : Cf Tryz.prog 4 [] [rawsE l, .agg [.i r.k, .i r.a, .i r.b, .s r.s]] [] (.b true) := by
  have hC : ConfOk C := eC ▸ confR_ok l
  have hpl := hC.pl
  have hns := fun a => (ok_PsOk hC).nl a
  have hK := cf_kConf hl hn
  rw [eC] at hK
  have hP : ConfOk ⟨C.k, 9, C.ps⟩ := ⟨hC.k, by show (0 : Int) ≤ 9 ∧ (9 : Int) ≤ 65535; decide, hC.pl, hC.ps, hC.inc, hC.nd⟩
  have hRun := Cf.arg2Z (setsW_avZ [prt 9]).symm (cf_RunKO hC (by decide) hP)
  have hN := cf_kNet (s := r.s) hr.1 hr.2.1 hr.2.2.1
  have hsm := cf_sameK hC hC
  rw [sameC_iff.2 rfl] at hsm
  refine Cf.introR tabT {} (DR _ _ _ tabT {}) (by kernel_rfl) tab_ok Tryz.func4 Tryz.ntmps4 rfl rfl (DR_ok tab_ok (by kernel_rfl)) (by kernel_rfl) ?_
  refine ⟨_, _, _, _, hK, ?_⟩
  repeat (refine Ob.mk ?_ ?_; focus (first | (exact fun _ _ _ _ => rfl) | (exact Eq.refl _)))
  refine ⟨_, _, _, _, hK, ?_⟩
  repeat (refine Ob.mk ?_ ?_; focus (first | (exact fun _ _ _ _ => rfl) | (exact Eq.refl _)))
  refine ⟨_, _, _, _, hRun, ?_⟩
  repeat (refine Ob.mk ?_ ?_; (focus (first | (exact fun _ _ _ _ => rfl) | (exact rows_n (N := 1) ⟨⟨rfl, rfl, rfl, rfl, rfl⟩, trivial⟩) | (exact Eq.refl _) | (intro _; exact Eq.refl _))))
  refine ⟨fun h1 => ?_, fun h1 => ?_⟩
  · skip
    (simp only [Int.reduceToNat, UInt8.reduceOfNat] at h1)
    have c1 := h1
    (simp only [bsX] at c1)
    exact absurd c1 (by simp)
  · skip
    (simp only [Int.reduceToNat, UInt8.reduceOfNat] at h1)
    have c1 := h1
    (simp only [bsX] at c1)
    refine ⟨Nat × (Nat → Nat → Nat → EV), fun p => ⟨[(3, .own 1003 0), (4, .b false), (5, .own 1005 0), (6, .own 1006 0), (7, .own 1007 0), (42, .i (C.ps.length : Int)), (43, .i (p.1 : Int))], [(1003, .box [.i r.k, .i r.a, .i r.b, .s r.s] 44), (1005, .box [.s C.k, .i C.port, peersE C.ps] 25), (1006, .box [.s C.k, .i C.port, peersE C.ps] 25), (1007, .box [.s C.k, .i 9, .osl 61 C.ps.length] 25), (61, .ra C.ps.length 5 (gA C.ps p.1) 33 nmK), (7000, .rz (C.ps.getD 0 peer0).ns.length 2 (p.2 0) 36 0), (7001, .rz (C.ps.getD 1 peer0).ns.length 2 (p.2 1) 36 0), (7002, .rz (C.ps.getD 2 peer0).ns.length 2 (p.2 2) 36 0), (7003, .rz (C.ps.getD 3 peer0).ns.length 2 (p.2 3) 36 0), (7004, .rz (C.ps.getD 4 peer0).ns.length 2 (p.2 4) 36 0), (7005, .rz (C.ps.getD 5 peer0).ns.length 2 (p.2 5) 36 0)]⟩, fun p => p.1 ≤ C.ps.length, fun p => C.ps.length - p.1, (0, fun a x y => netC ((C.ps.getD a peer0).ns.getD x []) y), Nat.zero_le _, ?_, fun p hx1 => ?_⟩
    · skip
      repeat (refine Ob.mk ?_ ?_; focus (first | (exact fun _ _ _ _ => rfl) | (exact Eq.refl _) | omega))
      trivial
    refine ⟨fun h2 => ?_, fun h2 => ?_⟩
    · skip
      have c2 := h2
      (simp only [bsX] at c2)
      have hi : p.1 < C.ps.length := by omega
      obtain ⟨w, f⟩ := p
      rcases (by omega : w = 0 ∨ w = 1 ∨ w = 2 ∨ w = 3 ∨ w = 4 ∨ w = 5) with rfl | rfl | rfl | rfl | rfl | rfl
      · skip
        repeat (refine Ob.mk ?_ ?_; focus (first | assumption | omega))
        refine ⟨Nat × (Nat → Nat → EV), fun q => ⟨[(3, .own 1003 0), (4, .b false), (5, .own 1005 0), (6, .own 1006 0), (7, .own 1007 0), (10, .i (0 : Int)), (42, .i (C.ps.length : Int)), (43, .i (0 : Int)), (52, .i ((C.ps.getD 0 peer0).ns.length : Int)), (53, .i (q.1 : Int))], [(1003, .box [.i r.k, .i r.a, .i r.b, .s r.s] 44), (1005, .box [.s C.k, .i C.port, peersE C.ps] 25), (1006, .box [.s C.k, .i C.port, peersE C.ps] 25), (1007, .box [.s C.k, .i 9, .osl 61 C.ps.length] 25), (61, .ra C.ps.length 5 (gA C.ps 0) 33 nmK), (7000, .rz (C.ps.getD 0 peer0).ns.length 2 ((bif Nat.beq 0 0 then q.2 else f 0)) 36 0), (7001, .rz (C.ps.getD 1 peer0).ns.length 2 ((bif Nat.beq 1 0 then q.2 else f 1)) 36 0), (7002, .rz (C.ps.getD 2 peer0).ns.length 2 ((bif Nat.beq 2 0 then q.2 else f 2)) 36 0), (7003, .rz (C.ps.getD 3 peer0).ns.length 2 ((bif Nat.beq 3 0 then q.2 else f 3)) 36 0), (7004, .rz (C.ps.getD 4 peer0).ns.length 2 ((bif Nat.beq 4 0 then q.2 else f 4)) 36 0), (7005, .rz (C.ps.getD 5 peer0).ns.length 2 ((bif Nat.beq 5 0 then q.2 else f 5)) 36 0)]⟩, fun q => q.1 ≤ (C.ps.getD 0 peer0).ns.length, fun q => (C.ps.getD 0 peer0).ns.length - q.1, (0, f 0), Nat.zero_le _, ?_, fun q hx2 => ?_⟩
        · skip
          repeat (refine Ob.mk ?_ ?_; focus (first | (exact fun _ _ _ _ => rfl) | (exact Eq.refl _) | omega))
          trivial
        refine ⟨fun h3 => ?_, fun h3 => ?_⟩
        · skip
          have c3 := h3
          (simp only [bsX] at c3)
          have hk : q.1 < (C.ps.getD 0 peer0).ns.length := by omega
          have hn8 := hns 0
          refine ⟨[0, 1, 0, 7, 15, 31, 0, 0, 128, 511, 1023], by kernel_rfl, ?_⟩
          repeat (refine Ob.mk ?_ ?_; focus (first | assumption | omega))
          refine ⟨_, _, _, _, hN, ?_⟩
          repeat (refine Ob.mk ?_ ?_; (focus (first | (exact Eq.refl _) | assumption | omega | (simp_all; done))))
          refine ⟨(q.1 + 1, stZ q.2 q.1 0 [.u32 (adr (netP r.k r.a r.b)), .i ((netP r.k r.a r.b).length : Int)]), (by assumption), (by (simp only [SrcE.len, Nat.zero_add, List.length_append, List.length_cons, List.length_nil]; omega)), ?_⟩
          repeat (refine Ob.mk ?_ ?_; focus (first | (exact fun _ _ _ _ => rfl) | (exact Eq.refl _) | omega))
          trivial
        · skip
          have c3 := h3
          (simp only [bsX] at c3)
          repeat (refine Ob.mk ?_ ?_; focus (first | assumption | omega))
          refine ⟨(0 + 1, fun a => bif Nat.beq a 0 then q.2 else f a), (by assumption), (by (simp only [SrcE.len, Nat.zero_add, List.length_append, List.length_cons, List.length_nil]; omega)), ?_⟩
          repeat (refine Ob.mk ?_ ?_; focus (first | (exact fun _ _ _ _ => rfl) | (exact Eq.refl _) | omega))
          trivial
      · skip
        repeat (refine Ob.mk ?_ ?_; focus (first | assumption | omega))
        refine ⟨Nat × (Nat → Nat → EV), fun q => ⟨[(3, .own 1003 0), (4, .b false), (5, .own 1005 0), (6, .own 1006 0), (7, .own 1007 0), (10, .i (1 : Int)), (42, .i (C.ps.length : Int)), (43, .i (1 : Int)), (52, .i ((C.ps.getD 1 peer0).ns.length : Int)), (53, .i (q.1 : Int))], [(1003, .box [.i r.k, .i r.a, .i r.b, .s r.s] 44), (1005, .box [.s C.k, .i C.port, peersE C.ps] 25), (1006, .box [.s C.k, .i C.port, peersE C.ps] 25), (1007, .box [.s C.k, .i 9, .osl 61 C.ps.length] 25), (61, .ra C.ps.length 5 (gA C.ps 1) 33 nmK), (7000, .rz (C.ps.getD 0 peer0).ns.length 2 ((bif Nat.beq 0 1 then q.2 else f 0)) 36 0), (7001, .rz (C.ps.getD 1 peer0).ns.length 2 ((bif Nat.beq 1 1 then q.2 else f 1)) 36 0), (7002, .rz (C.ps.getD 2 peer0).ns.length 2 ((bif Nat.beq 2 1 then q.2 else f 2)) 36 0), (7003, .rz (C.ps.getD 3 peer0).ns.length 2 ((bif Nat.beq 3 1 then q.2 else f 3)) 36 0), (7004, .rz (C.ps.getD 4 peer0).ns.length 2 ((bif Nat.beq 4 1 then q.2 else f 4)) 36 0), (7005, .rz (C.ps.getD 5 peer0).ns.length 2 ((bif Nat.beq 5 1 then q.2 else f 5)) 36 0)]⟩, fun q => q.1 ≤ (C.ps.getD 1 peer0).ns.length, fun q => (C.ps.getD 1 peer0).ns.length - q.1, (0, f 1), Nat.zero_le _, ?_, fun q hx2 => ?_⟩
        · skip
          repeat (refine Ob.mk ?_ ?_; focus (first | (exact fun _ _ _ _ => rfl) | (exact Eq.refl _) | omega))
          trivial
        refine ⟨fun h4 => ?_, fun h4 => ?_⟩
        · skip
          have c4 := h4
          (simp only [bsX] at c4)
          have hk : q.1 < (C.ps.getD 1 peer0).ns.length := by omega
          have hn8 := hns 1
          refine ⟨[0, 1, 0, 7, 15, 31, 0, 0, 128, 511, 1023], by kernel_rfl, ?_⟩
          repeat (refine Ob.mk ?_ ?_; focus (first | assumption | omega))
          refine ⟨_, _, _, _, hN, ?_⟩
          repeat (refine Ob.mk ?_ ?_; (focus (first | (exact Eq.refl _) | assumption | omega | (simp_all; done))))
          refine ⟨(q.1 + 1, stZ q.2 q.1 0 [.u32 (adr (netP r.k r.a r.b)), .i ((netP r.k r.a r.b).length : Int)]), (by assumption), (by (simp only [SrcE.len, Nat.zero_add, List.length_append, List.length_cons, List.length_nil]; omega)), ?_⟩
          repeat (refine Ob.mk ?_ ?_; focus (first | (exact fun _ _ _ _ => rfl) | (exact Eq.refl _) | omega))
          trivial
        · skip
          have c4 := h4
          (simp only [bsX] at c4)
          repeat (refine Ob.mk ?_ ?_; focus (first | assumption | omega))
          refine ⟨(1 + 1, fun a => bif Nat.beq a 1 then q.2 else f a), (by assumption), (by (simp only [SrcE.len, Nat.zero_add, List.length_append, List.length_cons, List.length_nil]; omega)), ?_⟩
          repeat (refine Ob.mk ?_ ?_; focus (first | (exact fun _ _ _ _ => rfl) | (exact Eq.refl _) | omega))
          trivial
      · skip
        repeat (refine Ob.mk ?_ ?_; focus (first | assumption | omega))
        refine ⟨Nat × (Nat → Nat → EV), fun q => ⟨[(3, .own 1003 0), (4, .b false), (5, .own 1005 0), (6, .own 1006 0), (7, .own 1007 0), (10, .i (2 : Int)), (42, .i (C.ps.length : Int)), (43, .i (2 : Int)), (52, .i ((C.ps.getD 2 peer0).ns.length : Int)), (53, .i (q.1 : Int))], [(1003, .box [.i r.k, .i r.a, .i r.b, .s r.s] 44), (1005, .box [.s C.k, .i C.port, peersE C.ps] 25), (1006, .box [.s C.k, .i C.port, peersE C.ps] 25), (1007, .box [.s C.k, .i 9, .osl 61 C.ps.length] 25), (61, .ra C.ps.length 5 (gA C.ps 2) 33 nmK), (7000, .rz (C.ps.getD 0 peer0).ns.length 2 ((bif Nat.beq 0 2 then q.2 else f 0)) 36 0), (7001, .rz (C.ps.getD 1 peer0).ns.length 2 ((bif Nat.beq 1 2 then q.2 else f 1)) 36 0), (7002, .rz (C.ps.getD 2 peer0).ns.length 2 ((bif Nat.beq 2 2 then q.2 else f 2)) 36 0), (7003, .rz (C.ps.getD 3 peer0).ns.length 2 ((bif Nat.beq 3 2 then q.2 else f 3)) 36 0), (7004, .rz (C.ps.getD 4 peer0).ns.length 2 ((bif Nat.beq 4 2 then q.2 else f 4)) 36 0), (7005, .rz (C.ps.getD 5 peer0).ns.length 2 ((bif Nat.beq 5 2 then q.2 else f 5)) 36 0)]⟩, fun q => q.1 ≤ (C.ps.getD 2 peer0).ns.length, fun q => (C.ps.getD 2 peer0).ns.length - q.1, (0, f 2), Nat.zero_le _, ?_, fun q hx2 => ?_⟩
        · skip
          repeat (refine Ob.mk ?_ ?_; focus (first | (exact fun _ _ _ _ => rfl) | (exact Eq.refl _) | omega))
          trivial
        refine ⟨fun h5 => ?_, fun h5 => ?_⟩
        · skip
          have c5 := h5
          (simp only [bsX] at c5)
          have hk : q.1 < (C.ps.getD 2 peer0).ns.length := by omega
          have hn8 := hns 2
          refine ⟨[0, 1, 0, 7, 15, 31, 0, 0, 128, 511, 1023], by kernel_rfl, ?_⟩
          repeat (refine Ob.mk ?_ ?_; focus (first | assumption | omega))
          refine ⟨_, _, _, _, hN, ?_⟩
          repeat (refine Ob.mk ?_ ?_; (focus (first | (exact Eq.refl _) | assumption | omega | (simp_all; done))))
          refine ⟨(q.1 + 1, stZ q.2 q.1 0 [.u32 (adr (netP r.k r.a r.b)), .i ((netP r.k r.a r.b).length : Int)]), (by assumption), (by (simp only [SrcE.len, Nat.zero_add, List.length_append, List.length_cons, List.length_nil]; omega)), ?_⟩
          repeat (refine Ob.mk ?_ ?_; focus (first | (exact fun _ _ _ _ => rfl) | (exact Eq.refl _) | omega))
          trivial
        · skip
          have c5 := h5
          (simp only [bsX] at c5)
          repeat (refine Ob.mk ?_ ?_; focus (first | assumption | omega))
          refine ⟨(2 + 1, fun a => bif Nat.beq a 2 then q.2 else f a), (by assumption), (by (simp only [SrcE.len, Nat.zero_add, List.length_append, List.length_cons, List.length_nil]; omega)), ?_⟩
          repeat (refine Ob.mk ?_ ?_; focus (first | (exact fun _ _ _ _ => rfl) | (exact Eq.refl _) | omega))
          trivial
      · skip
        repeat (refine Ob.mk ?_ ?_; focus (first | assumption | omega))
        refine ⟨Nat × (Nat → Nat → EV), fun q => ⟨[(3, .own 1003 0), (4, .b false), (5, .own 1005 0), (6, .own 1006 0), (7, .own 1007 0), (10, .i (3 : Int)), (42, .i (C.ps.length : Int)), (43, .i (3 : Int)), (52, .i ((C.ps.getD 3 peer0).ns.length : Int)), (53, .i (q.1 : Int))], [(1003, .box [.i r.k, .i r.a, .i r.b, .s r.s] 44), (1005, .box [.s C.k, .i C.port, peersE C.ps] 25), (1006, .box [.s C.k, .i C.port, peersE C.ps] 25), (1007, .box [.s C.k, .i 9, .osl 61 C.ps.length] 25), (61, .ra C.ps.length 5 (gA C.ps 3) 33 nmK), (7000, .rz (C.ps.getD 0 peer0).ns.length 2 ((bif Nat.beq 0 3 then q.2 else f 0)) 36 0), (7001, .rz (C.ps.getD 1 peer0).ns.length 2 ((bif Nat.beq 1 3 then q.2 else f 1)) 36 0), (7002, .rz (C.ps.getD 2 peer0).ns.length 2 ((bif Nat.beq 2 3 then q.2 else f 2)) 36 0), (7003, .rz (C.ps.getD 3 peer0).ns.length 2 ((bif Nat.beq 3 3 then q.2 else f 3)) 36 0), (7004, .rz (C.ps.getD 4 peer0).ns.length 2 ((bif Nat.beq 4 3 then q.2 else f 4)) 36 0), (7005, .rz (C.ps.getD 5 peer0).ns.length 2 ((bif Nat.beq 5 3 then q.2 else f 5)) 36 0)]⟩, fun q => q.1 ≤ (C.ps.getD 3 peer0).ns.length, fun q => (C.ps.getD 3 peer0).ns.length - q.1, (0, f 3), Nat.zero_le _, ?_, fun q hx2 => ?_⟩
        · skip
          repeat (refine Ob.mk ?_ ?_; focus (first | (exact fun _ _ _ _ => rfl) | (exact Eq.refl _) | omega))
          trivial
        refine ⟨fun h6 => ?_, fun h6 => ?_⟩
        · skip
          have c6 := h6
          (simp only [bsX] at c6)
          have hk : q.1 < (C.ps.getD 3 peer0).ns.length := by omega
          have hn8 := hns 3
          refine ⟨[0, 1, 0, 7, 15, 31, 0, 0, 128, 511, 1023], by kernel_rfl, ?_⟩
          repeat (refine Ob.mk ?_ ?_; focus (first | assumption | omega))
          refine ⟨_, _, _, _, hN, ?_⟩
          repeat (refine Ob.mk ?_ ?_; (focus (first | (exact Eq.refl _) | assumption | omega | (simp_all; done))))
          refine ⟨(q.1 + 1, stZ q.2 q.1 0 [.u32 (adr (netP r.k r.a r.b)), .i ((netP r.k r.a r.b).length : Int)]), (by assumption), (by (simp only [SrcE.len, Nat.zero_add, List.length_append, List.length_cons, List.length_nil]; omega)), ?_⟩
          repeat (refine Ob.mk ?_ ?_; focus (first | (exact fun _ _ _ _ => rfl) | (exact Eq.refl _) | omega))
          trivial
        · skip
          have c6 := h6
          (simp only [bsX] at c6)
          repeat (refine Ob.mk ?_ ?_; focus (first | assumption | omega))
          refine ⟨(3 + 1, fun a => bif Nat.beq a 3 then q.2 else f a), (by assumption), (by (simp only [SrcE.len, Nat.zero_add, List.length_append, List.length_cons, List.length_nil]; omega)), ?_⟩
          repeat (refine Ob.mk ?_ ?_; focus (first | (exact fun _ _ _ _ => rfl) | (exact Eq.refl _) | omega))
          trivial
      · skip
        repeat (refine Ob.mk ?_ ?_; focus (first | assumption | omega))
        refine ⟨Nat × (Nat → Nat → EV), fun q => ⟨[(3, .own 1003 0), (4, .b false), (5, .own 1005 0), (6, .own 1006 0), (7, .own 1007 0), (10, .i (4 : Int)), (42, .i (C.ps.length : Int)), (43, .i (4 : Int)), (52, .i ((C.ps.getD 4 peer0).ns.length : Int)), (53, .i (q.1 : Int))], [(1003, .box [.i r.k, .i r.a, .i r.b, .s r.s] 44), (1005, .box [.s C.k, .i C.port, peersE C.ps] 25), (1006, .box [.s C.k, .i C.port, peersE C.ps] 25), (1007, .box [.s C.k, .i 9, .osl 61 C.ps.length] 25), (61, .ra C.ps.length 5 (gA C.ps 4) 33 nmK), (7000, .rz (C.ps.getD 0 peer0).ns.length 2 ((bif Nat.beq 0 4 then q.2 else f 0)) 36 0), (7001, .rz (C.ps.getD 1 peer0).ns.length 2 ((bif Nat.beq 1 4 then q.2 else f 1)) 36 0), (7002, .rz (C.ps.getD 2 peer0).ns.length 2 ((bif Nat.beq 2 4 then q.2 else f 2)) 36 0), (7003, .rz (C.ps.getD 3 peer0).ns.length 2 ((bif Nat.beq 3 4 then q.2 else f 3)) 36 0), (7004, .rz (C.ps.getD 4 peer0).ns.length 2 ((bif Nat.beq 4 4 then q.2 else f 4)) 36 0), (7005, .rz (C.ps.getD 5 peer0).ns.length 2 ((bif Nat.beq 5 4 then q.2 else f 5)) 36 0)]⟩, fun q => q.1 ≤ (C.ps.getD 4 peer0).ns.length, fun q => (C.ps.getD 4 peer0).ns.length - q.1, (0, f 4), Nat.zero_le _, ?_, fun q hx2 => ?_⟩
        · skip
          repeat (refine Ob.mk ?_ ?_; focus (first | (exact fun _ _ _ _ => rfl) | (exact Eq.refl _) | omega))
          trivial
        refine ⟨fun h7 => ?_, fun h7 => ?_⟩
        · skip
          have c7 := h7
          (simp only [bsX] at c7)
          have hk : q.1 < (C.ps.getD 4 peer0).ns.length := by omega
          have hn8 := hns 4
          refine ⟨[0, 1, 0, 7, 15, 31, 0, 0, 128, 511, 1023], by kernel_rfl, ?_⟩
          repeat (refine Ob.mk ?_ ?_; focus (first | assumption | omega))
          refine ⟨_, _, _, _, hN, ?_⟩
          repeat (refine Ob.mk ?_ ?_; (focus (first | (exact Eq.refl _) | assumption | omega | (simp_all; done))))
          refine ⟨(q.1 + 1, stZ q.2 q.1 0 [.u32 (adr (netP r.k r.a r.b)), .i ((netP r.k r.a r.b).length : Int)]), (by assumption), (by (simp only [SrcE.len, Nat.zero_add, List.length_append, List.length_cons, List.length_nil]; omega)), ?_⟩
          repeat (refine Ob.mk ?_ ?_; focus (first | (exact fun _ _ _ _ => rfl) | (exact Eq.refl _) | omega))
          trivial
        · skip
          have c7 := h7
          (simp only [bsX] at c7)
          repeat (refine Ob.mk ?_ ?_; focus (first | assumption | omega))
          refine ⟨(4 + 1, fun a => bif Nat.beq a 4 then q.2 else f a), (by assumption), (by (simp only [SrcE.len, Nat.zero_add, List.length_append, List.length_cons, List.length_nil]; omega)), ?_⟩
          repeat (refine Ob.mk ?_ ?_; focus (first | (exact fun _ _ _ _ => rfl) | (exact Eq.refl _) | omega))
          trivial
      · skip
        repeat (refine Ob.mk ?_ ?_; focus (first | assumption | omega))
        refine ⟨Nat × (Nat → Nat → EV), fun q => ⟨[(3, .own 1003 0), (4, .b false), (5, .own 1005 0), (6, .own 1006 0), (7, .own 1007 0), (10, .i (5 : Int)), (42, .i (C.ps.length : Int)), (43, .i (5 : Int)), (52, .i ((C.ps.getD 5 peer0).ns.length : Int)), (53, .i (q.1 : Int))], [(1003, .box [.i r.k, .i r.a, .i r.b, .s r.s] 44), (1005, .box [.s C.k, .i C.port, peersE C.ps] 25), (1006, .box [.s C.k, .i C.port, peersE C.ps] 25), (1007, .box [.s C.k, .i 9, .osl 61 C.ps.length] 25), (61, .ra C.ps.length 5 (gA C.ps 5) 33 nmK), (7000, .rz (C.ps.getD 0 peer0).ns.length 2 ((bif Nat.beq 0 5 then q.2 else f 0)) 36 0), (7001, .rz (C.ps.getD 1 peer0).ns.length 2 ((bif Nat.beq 1 5 then q.2 else f 1)) 36 0), (7002, .rz (C.ps.getD 2 peer0).ns.length 2 ((bif Nat.beq 2 5 then q.2 else f 2)) 36 0), (7003, .rz (C.ps.getD 3 peer0).ns.length 2 ((bif Nat.beq 3 5 then q.2 else f 3)) 36 0), (7004, .rz (C.ps.getD 4 peer0).ns.length 2 ((bif Nat.beq 4 5 then q.2 else f 4)) 36 0), (7005, .rz (C.ps.getD 5 peer0).ns.length 2 ((bif Nat.beq 5 5 then q.2 else f 5)) 36 0)]⟩, fun q => q.1 ≤ (C.ps.getD 5 peer0).ns.length, fun q => (C.ps.getD 5 peer0).ns.length - q.1, (0, f 5), Nat.zero_le _, ?_, fun q hx2 => ?_⟩
        · skip
          repeat (refine Ob.mk ?_ ?_; focus (first | (exact fun _ _ _ _ => rfl) | (exact Eq.refl _) | omega))
          trivial
        refine ⟨fun h8 => ?_, fun h8 => ?_⟩
        · skip
          have c8 := h8
          (simp only [bsX] at c8)
          have hk : q.1 < (C.ps.getD 5 peer0).ns.length := by omega
          have hn8 := hns 5
          refine ⟨[0, 1, 0, 7, 15, 31, 0, 0, 128, 511, 1023], by kernel_rfl, ?_⟩
          repeat (refine Ob.mk ?_ ?_; focus (first | assumption | omega))
          refine ⟨_, _, _, _, hN, ?_⟩
          repeat (refine Ob.mk ?_ ?_; (focus (first | (exact Eq.refl _) | assumption | omega | (simp_all; done))))
          refine ⟨(q.1 + 1, stZ q.2 q.1 0 [.u32 (adr (netP r.k r.a r.b)), .i ((netP r.k r.a r.b).length : Int)]), (by assumption), (by (simp only [SrcE.len, Nat.zero_add, List.length_append, List.length_cons, List.length_nil]; omega)), ?_⟩
          repeat (refine Ob.mk ?_ ?_; focus (first | (exact fun _ _ _ _ => rfl) | (exact Eq.refl _) | omega))
          trivial
        · skip
          have c8 := h8
          (simp only [bsX] at c8)
          repeat (refine Ob.mk ?_ ?_; focus (first | assumption | omega))
          refine ⟨(5 + 1, fun a => bif Nat.beq a 5 then q.2 else f a), (by assumption), (by (simp only [SrcE.len, Nat.zero_add, List.length_append, List.length_cons, List.length_nil]; omega)), ?_⟩
          repeat (refine Ob.mk ?_ ?_; focus (first | (exact fun _ _ _ _ => rfl) | (exact Eq.refl _) | omega))
          trivial
    · skip
      have c2 := h2
      (simp only [bsX] at c2)
      refine ⟨_, _, _, _, hsm, ?_⟩
      repeat (refine Ob.mk ?_ ?_; focus (first | (exact fun _ _ _ _ => rfl) | (exact Eq.refl _)))
      trivial
theorem cf_ApplyOwn {l : List RawS} {r : RawS} (hl : ∀ x ∈ l, x.inn) (hn : (l.length : Int) ≤ 9223372036854775807) (hr : r.inn) : Cf Tryz.prog 4 [] [rawsE l, .agg [.i r.k, .i r.a, .i r.b, .s r.s]] [] (.b true) := cf_ApplyOwnO hl hn hr rfl
end Go.Proofs.YtcebndkiagbddaaGreatDoor

namespace Go.Proofs.YtcebndkiagbddaaGreatDoor
set_option linter.unusedVariables false
set_option maxRecDepth 100000

def chars (l : List Nat) : List Char := l.map Char.ofNat
theorem words_app : ∀ (l : List Nat) (r : List Char), (l.all fun c => !(Char.ofNat c == Char.ofNat 32)) = true → wordsSigns (chars l ++ Char.ofNat 32 :: r) = chars l :: wordsSigns r
  | [], r, _ => by
    show wordsSigns (Char.ofNat 32 :: r) = [] :: wordsSigns r
    rfl
  | c :: l, r, h => by
    simp only [List.all_cons, Bool.and_eq_true, Bool.not_eq_true', beq_eq_false_iff_ne] at h
    have ih := words_app l r h.2
    show wordsSigns (Char.ofNat c :: (chars l ++ Char.ofNat 32 :: r)) = (Char.ofNat c :: chars l) :: wordsSigns r
    rw [wordsSigns]
    · rw [ih]
    · exact fun e => h.1 (e.trans rfl)
theorem behind_ {h s : List Char} {r : List (List Char)} (hc : ((h == "harness".toList || h == "ownmain".toList) && isSumSigns s) = true) : behindMainWord (h :: s :: r) = r := by
  simp only [behindMainWord]
  rw [if_pos hc]
def hA : List Nat := 104 :: 97 :: 114 :: 110 :: 101 :: 115 :: 115 :: []
def hB : List Nat := 51 :: 48 :: 52 :: 51 :: 57 :: 51 :: 100 :: 99 :: 48 :: 99 :: 102 :: 102 :: 100 :: 99 :: 52 :: 55 :: 54 :: 102 :: 49 :: 51 :: 57 :: 101 :: 98 :: 99 :: 53 :: 102 :: 53 :: 57 :: 102 :: 57 :: 49 :: 101 :: 52 :: 54 :: 53 :: 52 :: 102 :: 50 :: 98 :: 50 :: 56 :: 100 :: 53 :: 48 :: 57 :: 56 :: 57 :: 57 :: 55 :: 99 :: 56 :: 57 :: 98 :: 48 :: 53 :: 54 :: 100 :: 55 :: 99 :: 54 :: 50 :: 98 :: 49 :: 54 :: []
def hC : List Nat := 99 :: 117 :: 116 :: []
def hD : List Nat := 97 :: 116 :: 32 :: 99 :: 97 :: 116 :: 116 :: 108 :: 101 :: 99 :: 114 :: 101 :: 101 :: 112 :: 47 :: 99 :: 97 :: 116 :: 116 :: 108 :: 101 :: 99 :: 114 :: 101 :: 101 :: 112 :: 107 :: 101 :: 101 :: 112 :: 46 :: 67 :: 111 :: 110 :: 102 :: 79 :: 119 :: 110 :: 101 :: 100 :: 32 :: 99 :: 97 :: 116 :: 116 :: 108 :: 101 :: 99 :: 114 :: 101 :: 101 :: 112 :: 47 :: 99 :: 97 :: 116 :: 116 :: 108 :: 101 :: 99 :: 114 :: 101 :: 101 :: 112 :: 107 :: 101 :: 101 :: 112 :: 46 :: 65 :: 112 :: 112 :: 108 :: 121 :: 79 :: 119 :: 110 :: 32 :: 99 :: 97 :: 116 :: 116 :: 108 :: 101 :: 99 :: 114 :: 101 :: 101 :: 112 :: 47 :: 99 :: 97 :: 116 :: 116 :: 108 :: 101 :: 99 :: 114 :: 101 :: 101 :: 112 :: 107 :: 101 :: 101 :: 112 :: 46 :: 65 :: 112 :: 112 :: 108 :: 121 :: 71 :: 111 :: 111 :: 100 :: 32 :: 99 :: 97 :: 116 :: 116 :: 108 :: 101 :: 99 :: 114 :: 101 :: 101 :: 112 :: 47 :: 99 :: 97 :: 116 :: 116 :: 108 :: 101 :: 99 :: 114 :: 101 :: 101 :: 112 :: 107 :: 101 :: 101 :: 112 :: 46 :: 65 :: 112 :: 112 :: 108 :: 121 :: 77 :: 111 :: 118 :: 101 :: 115 :: 32 :: 99 :: 97 :: 116 :: 116 :: 108 :: 101 :: 99 :: 114 :: 101 :: 101 :: 112 :: 47 :: 99 :: 97 :: 116 :: 116 :: 108 :: 101 :: 99 :: 114 :: 101 :: 101 :: 112 :: 107 :: 101 :: 101 :: 112 :: 46 :: 65 :: 112 :: 112 :: 108 :: 121 :: 65 :: 108 :: 108 :: 32 :: 99 :: 97 :: 116 :: 116 :: 108 :: 101 :: 99 :: 114 :: 101 :: 101 :: 112 :: 47 :: 99 :: 97 :: 116 :: 116 :: 108 :: 101 :: 99 :: 114 :: 101 :: 101 :: 112 :: 107 :: 101 :: 101 :: 112 :: 46 :: 65 :: 112 :: 112 :: 108 :: 121 :: 84 :: 101 :: 120 :: 116 :: 32 :: 99 :: 97 :: 116 :: 116 :: 108 :: 101 :: 99 :: 114 :: 101 :: 101 :: 112 :: 47 :: 99 :: 97 :: 116 :: 116 :: 108 :: 101 :: 99 :: 114 :: 101 :: 101 :: 112 :: 107 :: 101 :: 101 :: 112 :: 46 :: 65 :: 112 :: 112 :: 108 :: 121 :: 84 :: 119 :: 105 :: 99 :: 101 :: 32 :: 99 :: 97 :: 116 :: 116 :: 108 :: 101 :: 99 :: 114 :: 101 :: 101 :: 112 :: 47 :: 99 :: 97 :: 116 :: 116 :: 108 :: 101 :: 99 :: 114 :: 101 :: 101 :: 112 :: 107 :: 101 :: 101 :: 112 :: 46 :: 83 :: 116 :: 97 :: 103 :: 101 :: 83 :: 116 :: 101 :: 112 :: 115 :: 32 :: 99 :: 97 :: 116 :: 116 :: 108 :: 101 :: 99 :: 114 :: 101 :: 101 :: 112 :: 47 :: 99 :: 97 :: 116 :: 116 :: 108 :: 101 :: 99 :: 114 :: 101 :: 101 :: 112 :: 107 :: 101 :: 101 :: 112 :: 46 :: 83 :: 116 :: 97 :: 103 :: 101 :: 65 :: 115 :: 105 :: 100 :: 101 :: 32 :: 99 :: 97 :: 116 :: 116 :: 108 :: 101 :: 99 :: 114 :: 101 :: 101 :: 112 :: 47 :: 99 :: 97 :: 116 :: 116 :: 108 :: 101 :: 99 :: 114 :: 101 :: 101 :: 112 :: 107 :: 101 :: 101 :: 112 :: 46 :: 83 :: 116 :: 97 :: 103 :: 101 :: 69 :: 110 :: 100 :: 115 :: 32 :: 99 :: 97 :: 116 :: 116 :: 108 :: 101 :: 99 :: 114 :: 101 :: 101 :: 112 :: 47 :: 99 :: 97 :: 116 :: 116 :: 108 :: 101 :: 99 :: 114 :: 101 :: 101 :: 112 :: 107 :: 101 :: 101 :: 112 :: 46 :: 83 :: 104 :: 111 :: 119 :: 66 :: 97 :: 99 :: 107 :: 32 :: 99 :: 97 :: 116 :: 116 :: 108 :: 101 :: 99 :: 114 :: 101 :: 101 :: 112 :: 47 :: 99 :: 97 :: 116 :: 116 :: 108 :: 101 :: 99 :: 114 :: 101 :: 101 :: 112 :: 107 :: 101 :: 101 :: 112 :: 46 :: 68 :: 105 :: 102 :: 102 :: 66 :: 97 :: 99 :: 107 :: 32 :: 99 :: 97 :: 116 :: 116 :: 108 :: 101 :: 99 :: 114 :: 101 :: 101 :: 112 :: 47 :: 99 :: 97 :: 116 :: 116 :: 108 :: 101 :: 99 :: 114 :: 101 :: 101 :: 112 :: 107 :: 101 :: 101 :: 112 :: 46 :: 68 :: 97 :: 101 :: 109 :: 111 :: 110 :: 67 :: 111 :: 109 :: 109 :: 105 :: 116 :: 115 :: []
theorem order0 : Tryz.prog.initOrder = String.ofList (chars hA ++ Char.ofNat 32 :: (chars hB ++ Char.ofNat 32 :: (chars hC ++ Char.ofNat 32 :: chars hD))) := by
  conv => lhs; whnf
  kernel_rfl
theorem order_ : Tryz.prog.initOrder.toList = chars hA ++ Char.ofNat 32 :: (chars hB ++ Char.ofNat 32 :: (chars hC ++ Char.ofNat 32 :: chars hD)) := by
  rw [order0, String.toList_ofList]
theorem cut_ : ∃ r, behindMainWord (wordsSigns Tryz.prog.initOrder.toList) = chars (99 :: 117 :: 116 :: []) :: r := by
  refine ⟨wordsSigns (chars hD), ?_⟩
  rw [order_, words_app _ _ (by decide +kernel), words_app _ _ (by decide +kernel), words_app _ _ (by decide +kernel)]
  have h : ((chars hA == "harness".toList || chars hA == "ownmain".toList) && isSumSigns (chars hB)) = true := by decide +kernel
  exact behind_ h
theorem strip_ (r : List (List Char)) : stripLifts liftWords (chars (99 :: 117 :: 116 :: []) :: r) = ([], chars (99 :: 117 :: 116 :: []) :: r) := by kernel_rfl
theorem enter_of (P : Program) (r : List (List Char)) (h : behindMainWord (wordsSigns P.initOrder.toList) = chars (99 :: 117 :: 116 :: []) :: r) (h1 : P.laysLater = false) (h2 : P.bearsReflect = false) (h3 : P.doorFits [] = true) : P.mayEnter = true := by
  unfold Program.mayEnter
  rw [h]
  simp only [strip_, h1, h2, h3, Bool.not_false, Bool.or_true, Bool.and_true]
  have a : ((chars (99 :: 117 :: 116 :: []) :: r).head? == some "cut".toList) = true := by kernel_rfl
  have b : (List.contains ([] : List String) "reflectrows" || !List.contains ([] : List String) "leanrows") = true := by kernel_rfl
  rw [a, b]
  simp
theorem heads_of (P : Program) (r : List (List Char)) (h : behindMainWord (wordsSigns P.initOrder.toList) = chars (99 :: 117 :: 116 :: []) :: r) : P.headLifts = [] := by
  unfold Program.headLifts
  rw [h]
  simp only [strip_]
  have a : ((chars (99 :: 117 :: 116 :: []) :: r).head? == some "cut".toList) = true := by kernel_rfl
  rw [a]
  rfl
theorem lifts_of (P : Program) (r : List (List Char)) (h : behindMainWord (wordsSigns P.initOrder.toList) = chars (99 :: 117 :: 116 :: []) :: r) : P.liftsFinal = false := by
  unfold Program.liftsFinal
  rw [h, heads_of P r h]
  have a : ((chars (99 :: 117 :: 116 :: []) :: r).head? == some "carried".toList) = false := by kernel_rfl
  have b : List.contains ([] : List String) "finals" = false := by kernel_rfl
  simp only [a, b, Bool.false_and, Bool.false_or]
theorem make_of (P : Program) (r : List (List Char)) (h : behindMainWord (wordsSigns P.initOrder.toList) = chars (99 :: 117 :: 116 :: []) :: r) : P.make = some .cut := by
  unfold Program.make
  rw [h]
  have a : (chars (99 :: 117 :: 116 :: []) == "gc".toList) = false := by kernel_rfl
  have b : (chars (99 :: 117 :: 116 :: []) == "spec".toList) = false := by kernel_rfl
  have c : (chars (99 :: 117 :: 116 :: []) == "cut".toList) = true := by kernel_rfl
  simp only [a, b, c, Bool.false_or, Bool.true_or, if_true]
  rfl
theorem later_ : Tryz.prog.laysLater = false := by kernel_rfl
theorem bears_ : Tryz.prog.bearsReflect = false := by kernel_rfl
theorem door_ : Tryz.prog.doorFits [] = true := by kernel_rfl
theorem enter_ : Tryz.prog.mayEnter = true := by
  obtain ⟨r, h⟩ := cut_
  exact enter_of _ r h later_ bears_ door_
theorem lifts_ : Tryz.prog.liftsFinal = false := by
  obtain ⟨r, h⟩ := cut_
  exact lifts_of _ r h
theorem make_ : Tryz.prog.make = some .cut := by
  obtain ⟨r, h⟩ := cut_
  exact make_of _ r h
theorem andI {a b : Bool} (h : a = true) (k : b = true) : (a && b) = true := by rw [h, k]; rfl
theorem lifts_eq {x : Bool} (h : x = false) : (x == Tryz.prog.liftsFinal) = true := by rw [lifts_, h]; rfl
theorem make_eq {x : Make} (h : x = .cut) : (Tryz.prog.make == some x) = true := by rw [make_, h]; rfl
theorem maps_ : mapsRowed Tryz.prog = true := by kernel_rfl
theorem laid_ : laidOutB Tryz.prog = true := by kernel_rfl
theorem heard_ : Tryz.prog.stopsHeard = true := by kernel_rfl
end Go.Proofs.YtcebndkiagbddaaGreatDoor

namespace Go.Proofs.YtcebndkiagbddaaGreatDoor.applyOwn
open Go.ChangeShapes Go.WideShapes Go.ChangeAt Go.RowKit
open Go.ChangeMaps (open_string shut_string)
set_option linter.unusedVariables false
set_option linter.unusedSimpArgs false

def laidL : List (String × DataW Unit) := [("unicode/utf8.acceptRanges", Rows.laid_unicode_utf8_acceptRanges), ("unicode/utf8.first", Rows.laid_unicode_utf8_first)]
set_option maxRecDepth 100000 in
theorem lifted (os : Os) (started : os.Started) (H : Type) (enc : TypeId × Value → H) :
    ReturnsInHanded {} Tryz.checked os 4 .any (fun w args => (Rows.applyOwnSpec.pre enc Tryz.prog Tryz.f4 Rows.applyOwnRow.domain false w args ∧ laidMetH Tryz.prog laidL w) ∧ sizedMet enc Tryz.prog Tryz.f4 (OpenSpec.ofChange Rows.applyOwnSpec) false w args) (Rows.applyOwnSpec.post enc Tryz.prog Tryz.f4 false true false false) := by
  refine returnsInHanded_of_change_and (C := Tryz.checked) (X := fun w _ => laidMetH Tryz.prog laidL w) (fun _ _ _ hh h => h.of_heap hh) own started (by kernel_rfl) Tryz.func4
    (ChangeSpec.witness_shaped (enc := enc) (C := Tryz.checked) (os := os) (X := fun w _ => laidMetH Tryz.prog laidL w) false (World.laidAll Tryz.prog os laidL) #[.slice none 0 0, .agg #[.int .i64 0, .int .i64 0, .int .i64 0, .string ⟨#[]⟩]] 8 (World.laidAll_os _ _ _)
      (World.shaped_of_ZipB (by kernel_rfl) (by kernel_rfl)) (by kernel_rfl) (by kernel_rfl) (by kernel_rfl)
      (by rw [MakeChecks.laidMetH_plain _ _ _ (by kernel_rfl)]; exact laidMet_laidAll _ (by kernel_rfl) (by kernel_rfl))) ?_
  intro W base args ds gs before hval0 hW hcnd hwt hL _
  have hval : ∀ (j : Nat) t v, Tryz.f4.params[j]? = some t → args[j]? = some v → Value.okWide Tryz.prog W .any base t v := hval0
  have hW' := hW
  obtain ⟨p, q, hA0, hV, rfl, hfz, hnd⟩ := hW
  have hA : DataW.TrodAll enc Tryz.prog W 0 (fun _ => true) true Tryz.f4.params.toList args.toList ds p := hA0
  rw [Tryz.params4] at hA hval
  obtain ⟨v0, vs0, d0, ds0, p0, q0, hargs, rfl, rfl, h0, r0⟩ := trodAll_cons hA
  obtain ⟨v1, vs1, d1, ds1, p1, q1, rfl, rfl, rfl, h1, r1⟩ := trodAll_cons r0
  obtain ⟨rfl, rfl, rfl⟩ := trodAll_nil r1
  obtain rfl : args = #[v0, v1] := by cases args; simp_all
  obtain ⟨rfl, rfl⟩ := trodVars_none hV
  have k0 := h0
  have lt0 : ∀ x ∈ p0, x.block < W.heap.size := by obtain ⟨m, hm⟩ := k0; exact DataW.trod_lt m _ _ _ hm
  have k1 := h1
  have lt1 : ∀ x ∈ p1, x.block < W.heap.size := by obtain ⟨m, hm⟩ := k1; exact DataW.trod_lt m _ _ _ hm
  obtain ⟨l0, ok0, z0⟩ := open_raws' (hval 0 _ v0 rfl rfl) h0
  obtain ⟨k1a, k1b, k1c, s1, ok1, z1⟩ := open_raw' (hval 1 _ v1 rfl rfl) h1
  clear hA0 hval0
  refine (law_calls (vs := [_, _]) (cf_ApplyOwn (r := ⟨k1a, k1b, k1c, s1⟩) ok0.2 (by have := ok0.1; unfold maxLen at this; omega) ok1) (Amb.nil rfl) (ra_cons z0 (ra_cons z1 ra_nil))).mono fun e W9 ⟨he, bel⟩ => ?_
  subst he
  exact ⟨_, rfl, _, _, _, [], _, [], hW', trodAll_mk1 (shut_bool Tryz.underlying4 _), (trodAll_cons_mk (Below.trod laidOut (by kernel_rfl) (of_decide_eq_true (by kernel_rfl)) k0 bel lt0) (trodAll_cons_mk (Below.trod laidOut (by kernel_rfl) (of_decide_eq_true (by kernel_rfl)) k1 bel lt1) trodAll_mk0)), rfl, bel.frame _, fun h => by cases h⟩

theorem cl10 : (Rows.applyOwnRow.inPlace == Tryz.pinned.checked.prog.inPlace 4) = true := by kernel_rfl
theorem cl11 : (Rows.applyOwnRow.unfollowed == Tryz.pinned.checked.prog.unfollowed 4) = true := by kernel_rfl
theorem cl12 : (Rows.applyOwnRow.recurses == Tryz.pinned.checked.prog.recurses 4) = true := by kernel_rfl
theorem cl13 : (Rows.applyOwnRow.named == Tryz.pinned.checked.prog.varsNamed 4) = true := by kernel_rfl
theorem cl23 : (Rows.applyOwnRow.plainKeys == Tryz.pinned.checked.prog.plainKeys) = true := by kernel_rfl
theorem closed : joinedFacts Tryz.pinned.checked.prog 4 Tryz.f4 Rows.applyOwnSpec Rows.applyOwnRow = true := by
  unfold joinedFacts
  exact andI (andI (andI (andI (andI (andI (andI (andI (andI (andI (andI (andI (andI (andI (andI (andI (andI (andI (andI (andI (andI (andI (andI (andI (andI (andI (andI (andI (andI (andI (andI (by kernel_rfl) laid_) maps_) (by kernel_rfl)) (by kernel_rfl)) (by kernel_rfl)) (by kernel_rfl)) (by kernel_rfl)) (by kernel_rfl)) cl10) cl11) cl12) cl13) (by kernel_rfl)) (by kernel_rfl)) (by kernel_rfl)) (by kernel_rfl)) (by kernel_rfl)) (by kernel_rfl)) (by kernel_rfl)) (by kernel_rfl)) (by kernel_rfl)) cl23) (by kernel_rfl)) heard_) enter_) (lifts_eq (by kernel_rfl))) (make_eq (by kernel_rfl))) (by kernel_rfl)) (by kernel_rfl)) (by kernel_rfl)) (by kernel_rfl)

theorem over : Rows.applyOwnRow.holds Tryz.pinned (OpenSpec.ofChange Rows.applyOwnSpec) :=
  OpenClaim.holds_of_wide 4 Tryz.f4 rfl rfl rfl rfl rfl rfl rfl ⟨rfl, rfl, rfl, rfl, rfl⟩ rfl rfl rfl rfl rfl (by kernel_rfl) Tryz.func4 closed
    (of_decide_eq_true (by kernel_rfl)) (by unfold Func.isWrapper; first | (rw [if_pos (by decide +kernel)]; kernel_rfl) | (rw [if_neg (by decide +kernel)]; exact ⟨rfl, rfl⟩))
    (fun os started H enc _ => lifted os started H enc)

theorem pw1 : Rows.applyOwnRow.wfByText (OpenSpec.ofChange Rows.applyOwnSpec) = true := by kernel_rfl
theorem pw2 : Tryz.pinned.checked.prog.mainIs = some ((true, "304393dc0cffdc476f139ebc5f59f91e4654f2b28d5098997c89b056d7c62b16").1, (true, "304393dc0cffdc476f139ebc5f59f91e4654f2b28d5098997c89b056d7c62b16").2.toList) := by kernel_rfl
theorem pw3 : false = Tryz.pinned.checked.prog.looks [] := by kernel_rfl
theorem pw4 : ([22, 44].all fun u => !Tryz.prog.wantsStandIn u) = true := by kernel_rfl
theorem pw5 : false = Rows.applyOwnRow.goesBy Tryz.pinned.checked.prog := by kernel_rfl
theorem pw6 : Tryz.prog.funcNamed "cattlecreep/cattlecreepkeep.ApplyOwn" = some 4 := by kernel_rfl
theorem proved : Rows.ApplyOwnCardSaid :=
  Claim7.holds_tied_plain_at .later [] [.data, .pinned] true (true, "304393dc0cffdc476f139ebc5f59f91e4654f2b28d5098997c89b056d7c62b16") false
    over (fun _ h => by cases h) pw1 (fun _ h => by cases h) applyOwn_row_tie rfl ⟨rfl, rfl⟩ pw2 rfl
    (fun f fn hf hfn => by
      obtain rfl : f = 4 := Option.some.inj (pw6.symm.trans hf) |>.symm
      obtain rfl : fn = Tryz.f4 := (Option.some.inj (Tryz.func4.symm.trans hfn)).symm
      exact ⟨pw3, fun j t ht => by
        rw [Tryz.params4] at ht
        have hm : t ∈ [22, 44] := by simpa using Array.mem_of_getElem? ht
        exact (show Tryz.prog.wantsStandIn t = false by simpa using List.all_eq_true.1 pw4 t hm)⟩)
    pw5
#print axioms proved
end Go.Proofs.YtcebndkiagbddaaGreatDoor.applyOwn

