/- Package diff: plain words and contracts, for what may be. -/
import Derived.Test.YtfpglljpngiipaaDoorCDiffC
namespace Go.Proofs.YtfpglljpngiipaaDoor
open Go.RowKit Go.Lib
set_option linter.unusedVariables false
set_option linter.unusedSimpArgs false

/-! ### Two configurations -/
def d1 (b : ConfS) (p : PeerS) : List SetS := if fE b.ps p.k ≠ 0 ∨ goneB p (fP b.ps p.k) = true then [⟨4, p.k, 0, []⟩, ⟨5, [], 0, []⟩] else []
def d4 (a : ConfS) (q : PeerS) : List SetS := if fE a.ps q.k ≠ 0 ∨ goneB (fP a.ps q.k) q = true then showP q else chP (fP a.ps q.k) q
def d2 (a b : ConfS) : List SetS := if a.k = b.k then [] else [⟨1, b.k, 0, []⟩]
def d3 (a b : ConfS) : List SetS := if a.port = b.port then [] else [⟨2, [], b.port, []⟩]
def dA (a b : ConfS) (i : Nat) : List SetS := (a.ps.take i).flatMap (d1 b)
def dB (a b : ConfS) (i : Nat) : List SetS := (dA a b a.ps.length ++ d2 a b ++ d3 a b) ++ (b.ps.take i).flatMap (d4 a)
def diffS (a b : ConfS) : List SetS := dB a b b.ps.length
theorem dA_next {a b : ConfS} {i : Nat} (hi : i < a.ps.length) : dA a b (i + 1) = dA a b i ++ d1 b (pA a i) := by
  unfold dA
  rw [take_pA hi, List.flatMap_append]; simp
theorem dB_next {a b : ConfS} {i : Nat} (hi : i < b.ps.length) : dB a b (i + 1) = dB a b i ++ d4 a (pA b i) := by
  unfold dB
  rw [take_pA hi, List.flatMap_append, List.append_assoc]; simp
theorem dA_len {a b : ConfS} : ∀ i, i ≤ a.ps.length → (dA a b i).length ≤ 2 * i
  | 0, _ => Nat.le_refl _
  | i + 1, hi => by
    rw [dA_next (by omega), List.length_append]
    have := dA_len (a := a) (b := b) i (by omega)
    have : (d1 b (pA a i)).length ≤ 2 := by
      unfold d1
      split <;> simp
    omega
theorem chP_len {p q : PeerS} : (chP p q).length ≤ 5 + q.ns.length := by
  unfold chP
  split
  · exact Nat.zero_le _
  · unfold chO
    split
    · have := chH_len p q
      rw [List.length_cons]; omega
    · have := (chL_len (p := p) (q := q) q.ns.length).2
      rw [List.length_cons]; omega
theorem dB_len {a b : ConfS} (ha : ConfOk a) (hb : ConfOk b) : ∀ i, i ≤ b.ps.length → (dB a b i).length ≤ 14 + 13 * i
  | 0, _ => by
    have h1 := dA_len (a := a) (b := b) a.ps.length (Nat.le_refl _)
    have h2 := ha.pl
    show ((dA a b a.ps.length ++ d2 a b ++ d3 a b) ++ []).length ≤ 14
    rw [List.append_nil, List.length_append, List.length_append]
    have h3 : (d2 a b).length ≤ 1 := by unfold d2; split <;> simp
    have h4 : (d3 a b).length ≤ 1 := by unfold d3; split <;> simp
    omega
  | i + 1, hi => by
    rw [dB_next (by omega), List.length_append]
    have h1 := dB_len ha hb i (by omega)
    have h2 := (hb.ps _ (pA_mem (c := b) (i := i) (by omega))).1.nl
    have h3 : (d4 a (pA b i)).length ≤ 13 := by
      unfold d4
      split
      · have := shP_len (p := pA b i) (pA b i).ns.length
        show (shP (pA b i) (pA b i).ns.length).length ≤ _
        omega
      · have := chP_len (p := fP a.ps (pA b i).k) (q := pA b i)
        omega
    omega
theorem sq_two {n : Nat} {L M : List SetS} {s u : SetS} {f : Nat → Nat → EV} {X : List EV} (hf : ∀ a, a < n → ∀ j, j < 5 → f a j = stQ L a j) (hX : X = [stq s 0, stq s 1, stq s 2, stq s 3, stq s 4, stq u 0, stq u 1, stq u 2, stq u 3, stq u 4]) (hn : L.length = n) (hM : M = L ++ [s, u]) :
    ∀ a, a < n + 2 → ∀ j, j < 5 → (bif Nat.blt a n then f a j else X.getD ((a - n) * 5 + j) .any) = stQ M a j := by
  subst hX hM hn
  intro a ha j hj
  by_cases hq : a < L.length
  · have : Nat.blt a L.length = true := by simpa [Nat.blt_eq] using hq
    rw [this]
    refine (hf a hq j hj).trans ?_
    show stq (L.getD a set0) j = stq ((L ++ [s, u]).getD a set0) j
    rw [List.getD_eq_getElem?_getD, List.getD_eq_getElem?_getD, List.getElem?_append_left hq]
  · have : Nat.blt a L.length = false := by cases hb : Nat.blt a L.length with | false => rfl | true => (rw [Nat.blt_eq] at hb; omega)
    rw [this]
    show _ = stq ((L ++ [s, u]).getD a set0) j
    rw [List.getD_eq_getElem?_getD (l := L ++ [s, u]), List.getElem?_append_right (by omega)]
    have ha2 : a - L.length = 0 ∨ a - L.length = 1 := by omega
    have : j = 0 ∨ j = 1 ∨ j = 2 ∨ j = 3 ∨ j = 4 := by omega
    rcases ha2 with e | e <;> rw [e] <;> rcases this with rfl | rfl | rfl | rfl | rfl <;> rfl
set_option maxRecDepth 100000 in
set_option maxHeartbeats 4000000 in
theorem cf_PeerQO {p : PeerS} (h : PeerOk p) : Cf Tryd.prog 25 [] [peerE p] [] (.tup [.lz (showP p).length 5 (stQ (showP p)), .i 0]) := by
  have hnl := h.nl
  refine Cf.introR tabT {} D0 (by kernel_rfl) tab_ok Tryd.func25 Tryd.ntmps25 rfl rfl (D0_ok) (by kernel_rfl) ?_
  refine ⟨_, _, _, _, (cf_RightO h), ?_⟩
  repeat (refine Ob.mk ?_ ?_; (focus (first | (exact Eq.refl _) | (intro hg; ((intro hq; ((simp_all; done))))))))
  refine knF ?_
  refine ⟨_, _, _, _, (cf_ofPeerO (p := p) (by omega)), ?_⟩
  repeat (refine Ob.mk ?_ ?_; (focus (first | (exact Eq.refl _) | (intro hg; ((intro hq; ((simp_all; done))))))))
  trivial
set_option maxRecDepth 100000 in
set_option maxHeartbeats 4000000 in
theorem cf_OfO {a b : ConfS} (ha : ConfOk a) (hb : ConfOk b) (hk : a.k = [] ∨ b.k ≠ []) : Cf Tryd.prog 27 [] [confE a, confE b] [] (.tup [.lz (diffS a b).length 5 (stQ (diffS a b)), .i 0]) := by
  have hC0 := cf_ConfCheck ha
  have hC1 := cf_ConfCheck hb
  have hpa := ha.pl
  have hpb := hb.pl
  refine Cf.introR tabT {nl := [(9, 53, 5)], fz := [138]} (DR _ _ _ tabT {nl := [(9, 53, 5)], fz := [138]}) (by kernel_rfl) tab_ok Tryd.func27 Tryd.ntmps27 rfl rfl (DR_ok tab_ok (by kernel_rfl)) (by kernel_rfl) ?_
  refine ⟨Nat, fun i => ⟨[(2, .own 1002 0), (3, .own 1003 0), (22, .agg [.s a.k, .i a.port, peersE a.ps, .s b.k, .i b.port, peersE b.ps]), (23, .i (i : Int))], [(1002, .box [.s a.k, .i a.port, peersE a.ps] 67), (1003, .box [.s b.k, .i b.port, peersE b.ps] 67)]⟩, fun i => i ≤ 2, fun i => 2 - i, 0, by decide, ?_, fun i hx1 => ?_⟩
  · skip
    repeat (refine Ob.mk ?_ ?_; focus (first | (exact fun _ _ _ _ => rfl) | (exact Eq.refl _)))
    trivial
  refine ⟨fun h1 => ?_, fun h1 => ?_⟩
  · skip
    have c1 := h1
    (simp only [bsX] at c1)
    rcases (by omega : i = 0 ∨ i = 1) with rfl | rfl
    · skip
      repeat (refine Ob.mk ?_ ?_; focus (omega))
      refine ⟨_, _, _, _, hC0, ?_⟩
      repeat (refine Ob.mk ?_ ?_; focus (first | (exact fun _ _ _ _ => rfl) | (exact Eq.refl _)))
      refine knF ?_
      repeat (refine Ob.mk ?_ ?_; focus (omega))
      refine ⟨0 + 1, (by omega), (by (exact Nat.le_of_ble_eq_true rfl)), ?_⟩
      repeat (refine Ob.mk ?_ ?_; focus (first | (exact fun _ _ _ _ => rfl) | (exact Eq.refl _)))
      trivial
    · skip
      repeat (refine Ob.mk ?_ ?_; focus (omega))
      refine ⟨_, _, _, _, hC1, ?_⟩
      repeat (refine Ob.mk ?_ ?_; focus (first | (exact fun _ _ _ _ => rfl) | (exact Eq.refl _)))
      refine knF ?_
      repeat (refine Ob.mk ?_ ?_; focus (omega))
      refine ⟨1 + 1, (by omega), (by (exact Nat.le_of_ble_eq_true rfl)), ?_⟩
      repeat (refine Ob.mk ?_ ?_; focus (first | (exact fun _ _ _ _ => rfl) | (exact Eq.refl _)))
      trivial
  · skip
    have c1 := h1
    (simp only [bsX] at c1)
    repeat (refine Ob.mk ?_ ?_; focus (first | (exact fun hg => beq_t hg) | (exact fun hg => hg)))
    refine ⟨fun h4 => ?_, fun h4 => ?_⟩
    · skip
      have c4 := h4
      (simp only [bsX] at c4)
      exact absurd c4 (by rcases hk with h | h <;> simp [h])
    · skip
      have c4 := h4
      (simp only [bsX] at c4)
      refine ⟨Nat, fun i => ⟨[(2, .own 1002 0), (3, .own 1003 0), (9, .osl 61 (dA a b i).length), (41, peersE a.ps), (42, .i (a.ps.length : Int)), (43, .i (i : Int))], [(1002, .box [.s a.k, .i a.port, peersE a.ps] 67), (1003, .box [.s b.k, .i b.port, peersE b.ps] 67), (61, .rz (dA a b i).length 5 (stQ (dA a b i)) 53 0)]⟩, fun i => i ≤ a.ps.length, fun i => a.ps.length - i, 0, Nat.zero_le _, ?_, fun i hx2 => ?_⟩
      · skip
        repeat (refine Ob.mk ?_ ?_; focus (first | (exact fun _ _ _ _ => rfl) | (exact Eq.refl _) | omega))
        trivial
      refine ⟨fun h5 => ?_, fun h5 => ?_⟩
      · skip
        have c5 := h5
        (simp only [bsX] at c5)
        have hi : i < a.ps.length := by omega
        have hdl := dA_len (a := a) (b := b) i (by omega)
        have hM := dA_next (b := b) hi
        repeat (refine Ob.mk ?_ ?_; focus (first | assumption | omega))
        refine ⟨_, _, _, _, (cf_FindF (c := b) (k := (pA a i).k) hb), ?_⟩
        repeat (refine Ob.mk ?_ ?_; focus (first | (exact fun _ _ _ _ => rfl) | (exact Eq.refl _)))
        refine ⟨[0, 1, 3, 7, 7, 23, 7, 119, 247, 511, 1023], by kernel_rfl, ?_⟩
        repeat (refine Ob.mk ?_ ?_; focus (first | (exact fun hq => ⟨(fI_in (by simpa using hq)).1, (fI_in (by simpa using hq)).2.1⟩) | (exact fun hq => (fI_in (by simpa using hq)).2.2.1) | (exact fun hg => hg)))
        refine gx (fun hc => (cf_gone (p := pA a i) (q := fP b.ps (pA a i).k))) (fun hk => ⟨hk, ?_⟩)
        repeat (refine Ob.mk ?_ ?_; (focus (first | (exact fun _ _ _ _ _ => rfl) | (intro _; exact Eq.refl _) | (exact fun hg => beq_f hg) | (exact fun hg => hg))))
        refine ⟨fun h6 => ?_, fun h6 => ?_⟩
        · skip
          have c6 := h6
          (simp only [bsX] at c6)
          have h1 : d1 b (pA a i) = [⟨4, (pA a i).k, 0, []⟩, ⟨5, [], 0, []⟩] := if_pos c6
          rw [h1] at hM
          have hl1 : (dA a b i).length + 2 = (dA a b (i + 1)).length := by rw [hM]; simp
          repeat (refine Ob.mk ?_ ?_; (focus (first | (exact Eq.refl _) | omega | (simp only [SrcE.len, Nat.zero_add, List.length_append, List.length_cons, List.length_nil]; omega))))
          refine ⟨i + 1, (by assumption), (by (simp only [SrcE.len, Nat.zero_add, List.length_append, List.length_cons, List.length_nil]; omega)), ?_⟩
          repeat (refine Ob.mk ?_ ?_; focus (first | (exact hl1) | (exact sq_two (L := dA a b i) (s := ⟨4, (pA a i).k, 0, []⟩) (u := ⟨5, [], 0, []⟩) (fun _ _ _ _ => rfl) rfl rfl hM) | (exact fun _ _ _ _ => rfl) | (exact Eq.refl _) | (exact Nat.le_of_ble_eq_true rfl)))
          trivial
        · skip
          have c6 := h6
          (simp only [bsX] at c6)
          have h1 : d1 b (pA a i) = [] := if_neg (by rintro (h | h); exact h (c6).1; exact absurd (h.symm.trans (c6).2) (by decide))
          rw [h1, List.append_nil] at hM
          have hl1 : (dA a b i).length = (dA a b (i + 1)).length := by rw [hM]
          repeat (refine Ob.mk ?_ ?_; focus (omega))
          refine ⟨i + 1, (by assumption), (by (simp only [SrcE.len, Nat.zero_add, List.length_append, List.length_cons, List.length_nil]; omega)), ?_⟩
          repeat (refine Ob.mk ?_ ?_; focus (first | (exact hl1) | (exact hM ▸ fun _ _ _ _ => rfl) | (exact fun _ _ _ _ => rfl) | (exact Eq.refl _) | omega))
          trivial
      · skip
        have c5 := h5
        (simp only [bsX] at c5)
        obtain rfl : i = a.ps.length := by omega
        have hdl := dA_len (a := a) (b := b) a.ps.length (Nat.le_refl _)
        refine ⟨fun h7 => ?_, fun h7 => ?_⟩
        · skip
          have c7 := h7
          (simp only [bsX] at c7)
          have e2 : d2 a b = [⟨1, b.k, 0, []⟩] := if_neg c7
          repeat (refine Ob.mk ?_ ?_; (focus (first | (exact Eq.refl _) | (simp only [SrcE.len, Nat.zero_add, List.length_append, List.length_cons, List.length_nil]; omega))))
          refine ⟨fun h8 => ?_, fun h8 => ?_⟩
          · skip
            have c8 := h8
            (simp only [bsX] at c8)
            have e3 : d3 a b = [⟨2, [], b.port, []⟩] := if_neg c8
            repeat (refine Ob.mk ?_ ?_; (focus (first | (exact Eq.refl _) | (simp only [SrcE.len, Nat.zero_add, List.length_append, List.length_cons, List.length_nil]; omega))))
            have eB : dB a b 0 = dA a b a.ps.length ++ d2 a b ++ d3 a b := List.append_nil _
            rw [e2, e3] at eB
            try simp only [List.append_nil] at eB
            refine ⟨Nat, fun i => ⟨[(2, .own 1002 0), (3, .own 1003 0), (9, .osl 61 (dB a b i).length), (96, peersE b.ps), (97, .i (b.ps.length : Int)), (98, .i (i : Int))], [(1002, .box [.s a.k, .i a.port, peersE a.ps] 67), (1003, .box [.s b.k, .i b.port, peersE b.ps] 67), (61, .rz (dB a b i).length 5 (stQ (dB a b i)) 53 0)]⟩, fun i => i ≤ b.ps.length, fun i => b.ps.length - i, 0, Nat.zero_le _, ?_, fun i hx3 => ?_⟩
            · skip
              repeat (refine Ob.mk ?_ ?_; (focus (first | (exact fun _ _ _ _ => rfl) | (rw [eB, List.length_append, List.length_append]; rfl) | (rw [eB]; exact sq_s rfl (sq_s rfl (fun _ _ _ _ => rfl) rfl rfl) rfl (List.length_append ..)) | (exact Eq.refl _) | (exact Nat.le_of_ble_eq_true rfl))))
              trivial
            refine ⟨fun h9 => ?_, fun h9 => ?_⟩
            · skip
              have c9 := h9
              (simp only [bsX] at c9)
              have hi : i < b.ps.length := by omega
              have hdl := dB_len ha hb i (by omega)
              have hdl1 := dB_len ha hb (i + 1) hi
              have hM := dB_next (a := a) hi
              have hl1 : (dB a b i).length + (d4 a (pA b i)).length = (dB a b (i + 1)).length := by rw [hM]; simp
              repeat (refine Ob.mk ?_ ?_; focus (first | assumption | omega))
              refine ⟨_, _, _, _, (cf_FindF (c := a) (k := (pA b i).k) ha), ?_⟩
              repeat (refine Ob.mk ?_ ?_; focus (first | (exact fun _ _ _ _ => rfl) | (exact Eq.refl _)))
              refine ⟨[0, 1, 3, 7, 15, 7, 63, 127, 7, 511, 1023], by kernel_rfl, ?_⟩
              repeat (refine Ob.mk ?_ ?_; focus (first | (exact fun hq => ⟨(fI_in (by simpa using hq)).1, (fI_in (by simpa using hq)).2.1⟩) | (exact fun hq => (fI_in (by simpa using hq)).2.2.1) | (exact fun hg => hg)))
              refine gx (fun hc => (cf_gone (p := fP a.ps (pA b i).k) (q := pA b i))) (fun hk => ⟨hk, ?_⟩)
              repeat (refine Ob.mk ?_ ?_; (focus (first | (exact fun _ _ _ _ _ => rfl) | (intro _; exact Eq.refl _) | (exact fun hg => beq_f hg) | (exact fun hg => hg))))
              refine ⟨fun h10 => ?_, fun h10 => ?_⟩
              · skip
                have c10 := h10
                (simp only [bsX] at c10)
                have h4 : d4 a (pA b i) = showP (pA b i) := if_pos c10
                rw [h4] at hM hl1
                refine ⟨_, _, _, _, (cf_PeerQO (p := pA b i) (hb.ps _ (pA_mem hi)).1), ?_⟩
                repeat (refine Ob.mk ?_ ?_; (focus (first | (exact fun _ _ _ _ => rfl) | (exact Eq.refl _) | omega | (simp only [SrcE.len, Nat.zero_add, List.length_append, List.length_cons, List.length_nil]; omega))))
                refine ⟨i + 1, (by assumption), (by (simp only [SrcE.len, Nat.zero_add, List.length_append, List.length_cons, List.length_nil]; omega)), ?_⟩
                repeat (refine Ob.mk ?_ ?_; focus (first | (exact hl1) | (exact sq_app stq hM rfl) | (exact fun _ _ _ _ => rfl) | (exact Eq.refl _) | (exact Nat.le_of_ble_eq_true rfl)))
                trivial
              · skip
                have c10 := h10
                (simp only [bsX] at c10)
                have hfe := (c10).1
                have hfi := fI_in hfe
                have h4 : d4 a (pA b i) = chP (fP a.ps (pA b i).k) (pA b i) := if_neg (by rintro (h | h); exact h (c10).1; exact absurd (h.symm.trans (c10).2) (by decide))
                rw [h4] at hM hl1
                refine ⟨[0, 0, 2, 0, 14, 30, 0, 126, 255, 511], by kernel_rfl, ?_⟩
                repeat (refine Ob.mk ?_ ?_; focus (omega))
                refine ⟨_, _, _, _, (cf_changeO (p := fP a.ps (pA b i).k) (q := pA b i) (ha.ps _ hfi.2.2.2.1).1 (hb.ps _ (pA_mem hi)).1), ?_⟩
                repeat (refine Ob.mk ?_ ?_; (focus (first | (exact fun _ _ _ _ => rfl) | (exact Eq.refl _) | omega | (simp only [SrcE.len, Nat.zero_add, List.length_append, List.length_cons, List.length_nil]; omega))))
                refine ⟨i + 1, (by assumption), (by (simp only [SrcE.len, Nat.zero_add, List.length_append, List.length_cons, List.length_nil]; omega)), ?_⟩
                repeat (refine Ob.mk ?_ ?_; focus (first | (exact hl1) | (exact sq_app stq hM rfl) | (exact fun _ _ _ _ => rfl) | (exact Eq.refl _) | (exact Nat.le_of_ble_eq_true rfl)))
                trivial
            · skip
              have c9 := h9
              (simp only [bsX] at c9)
              obtain rfl : i = b.ps.length := by omega
              have hdl := dB_len ha hb b.ps.length (Nat.le_refl _)
              repeat (refine Ob.mk ?_ ?_; (focus (first | (exact fun _ _ _ _ => rfl) | (exact Eq.refl _) | (simp only [SrcE.len, Nat.zero_add, List.length_append, List.length_cons, List.length_nil]; omega))))
              trivial
          · skip
            have c8 := h8
            (simp only [bsX] at c8)
            have e3 : d3 a b = [] := if_pos (by simpa using h8)
            have eB : dB a b 0 = dA a b a.ps.length ++ d2 a b ++ d3 a b := List.append_nil _
            rw [e2, e3] at eB
            try simp only [List.append_nil] at eB
            refine ⟨Nat, fun i => ⟨[(2, .own 1002 0), (3, .own 1003 0), (9, .osl 61 (dB a b i).length), (96, peersE b.ps), (97, .i (b.ps.length : Int)), (98, .i (i : Int))], [(1002, .box [.s a.k, .i a.port, peersE a.ps] 67), (1003, .box [.s b.k, .i b.port, peersE b.ps] 67), (61, .rz (dB a b i).length 5 (stQ (dB a b i)) 53 0)]⟩, fun i => i ≤ b.ps.length, fun i => b.ps.length - i, 0, Nat.zero_le _, ?_, fun i hx3 => ?_⟩
            · skip
              repeat (refine Ob.mk ?_ ?_; (focus (first | (exact fun _ _ _ _ => rfl) | (rw [eB, List.length_append]; rfl) | (rw [eB]; exact sq_s rfl (fun _ _ _ _ => rfl) rfl rfl) | (exact Eq.refl _) | (exact Nat.le_of_ble_eq_true rfl))))
              trivial
            refine ⟨fun h11 => ?_, fun h11 => ?_⟩
            · skip
              have c11 := h11
              (simp only [bsX] at c11)
              have hi : i < b.ps.length := by omega
              have hdl := dB_len ha hb i (by omega)
              have hdl1 := dB_len ha hb (i + 1) hi
              have hM := dB_next (a := a) hi
              have hl1 : (dB a b i).length + (d4 a (pA b i)).length = (dB a b (i + 1)).length := by rw [hM]; simp
              repeat (refine Ob.mk ?_ ?_; focus (first | assumption | omega))
              refine ⟨_, _, _, _, (cf_FindF (c := a) (k := (pA b i).k) ha), ?_⟩
              repeat (refine Ob.mk ?_ ?_; focus (first | (exact fun _ _ _ _ => rfl) | (exact Eq.refl _)))
              refine ⟨[0, 1, 3, 7, 15, 7, 63, 127, 7, 511, 1023], by kernel_rfl, ?_⟩
              repeat (refine Ob.mk ?_ ?_; focus (first | (exact fun hq => ⟨(fI_in (by simpa using hq)).1, (fI_in (by simpa using hq)).2.1⟩) | (exact fun hq => (fI_in (by simpa using hq)).2.2.1) | (exact fun hg => hg)))
              refine gx (fun hc => (cf_gone (p := fP a.ps (pA b i).k) (q := pA b i))) (fun hk => ⟨hk, ?_⟩)
              repeat (refine Ob.mk ?_ ?_; (focus (first | (exact fun _ _ _ _ _ => rfl) | (intro _; exact Eq.refl _) | (exact fun hg => beq_f hg) | (exact fun hg => hg))))
              refine ⟨fun h12 => ?_, fun h12 => ?_⟩
              · skip
                have c12 := h12
                (simp only [bsX] at c12)
                have h4 : d4 a (pA b i) = showP (pA b i) := if_pos c12
                rw [h4] at hM hl1
                refine ⟨_, _, _, _, (cf_PeerQO (p := pA b i) (hb.ps _ (pA_mem hi)).1), ?_⟩
                repeat (refine Ob.mk ?_ ?_; (focus (first | (exact fun _ _ _ _ => rfl) | (exact Eq.refl _) | omega | (simp only [SrcE.len, Nat.zero_add, List.length_append, List.length_cons, List.length_nil]; omega))))
                refine ⟨i + 1, (by assumption), (by (simp only [SrcE.len, Nat.zero_add, List.length_append, List.length_cons, List.length_nil]; omega)), ?_⟩
                repeat (refine Ob.mk ?_ ?_; focus (first | (exact hl1) | (exact sq_app stq hM rfl) | (exact fun _ _ _ _ => rfl) | (exact Eq.refl _) | (exact Nat.le_of_ble_eq_true rfl)))
                trivial
              · skip
                have c12 := h12
                (simp only [bsX] at c12)
                have hfe := (c12).1
                have hfi := fI_in hfe
                have h4 : d4 a (pA b i) = chP (fP a.ps (pA b i).k) (pA b i) := if_neg (by rintro (h | h); exact h (c12).1; exact absurd (h.symm.trans (c12).2) (by decide))
                rw [h4] at hM hl1
                refine ⟨[0, 0, 2, 0, 14, 30, 0, 126, 255, 511], by kernel_rfl, ?_⟩
                repeat (refine Ob.mk ?_ ?_; focus (omega))
                refine ⟨_, _, _, _, (cf_changeO (p := fP a.ps (pA b i).k) (q := pA b i) (ha.ps _ hfi.2.2.2.1).1 (hb.ps _ (pA_mem hi)).1), ?_⟩
                repeat (refine Ob.mk ?_ ?_; (focus (first | (exact fun _ _ _ _ => rfl) | (exact Eq.refl _) | omega | (simp only [SrcE.len, Nat.zero_add, List.length_append, List.length_cons, List.length_nil]; omega))))
                refine ⟨i + 1, (by assumption), (by (simp only [SrcE.len, Nat.zero_add, List.length_append, List.length_cons, List.length_nil]; omega)), ?_⟩
                repeat (refine Ob.mk ?_ ?_; focus (first | (exact hl1) | (exact sq_app stq hM rfl) | (exact fun _ _ _ _ => rfl) | (exact Eq.refl _) | (exact Nat.le_of_ble_eq_true rfl)))
                trivial
            · skip
              have c11 := h11
              (simp only [bsX] at c11)
              obtain rfl : i = b.ps.length := by omega
              have hdl := dB_len ha hb b.ps.length (Nat.le_refl _)
              repeat (refine Ob.mk ?_ ?_; (focus (first | (exact fun _ _ _ _ => rfl) | (exact Eq.refl _) | (simp only [SrcE.len, Nat.zero_add, List.length_append, List.length_cons, List.length_nil]; omega))))
              trivial
        · skip
          have c7 := h7
          (simp only [bsX] at c7)
          have e2 : d2 a b = [] := if_pos (by simpa using h7)
          refine ⟨fun h13 => ?_, fun h13 => ?_⟩
          · skip
            have c13 := h13
            (simp only [bsX] at c13)
            have e3 : d3 a b = [⟨2, [], b.port, []⟩] := if_neg c13
            repeat (refine Ob.mk ?_ ?_; (focus (first | (exact Eq.refl _) | (simp only [SrcE.len, Nat.zero_add, List.length_append, List.length_cons, List.length_nil]; omega))))
            have eB : dB a b 0 = dA a b a.ps.length ++ d2 a b ++ d3 a b := List.append_nil _
            rw [e2, e3] at eB
            try simp only [List.append_nil] at eB
            refine ⟨Nat, fun i => ⟨[(2, .own 1002 0), (3, .own 1003 0), (9, .osl 61 (dB a b i).length), (96, peersE b.ps), (97, .i (b.ps.length : Int)), (98, .i (i : Int))], [(1002, .box [.s a.k, .i a.port, peersE a.ps] 67), (1003, .box [.s b.k, .i b.port, peersE b.ps] 67), (61, .rz (dB a b i).length 5 (stQ (dB a b i)) 53 0)]⟩, fun i => i ≤ b.ps.length, fun i => b.ps.length - i, 0, Nat.zero_le _, ?_, fun i hx3 => ?_⟩
            · skip
              repeat (refine Ob.mk ?_ ?_; (focus (first | (exact fun _ _ _ _ => rfl) | (rw [eB, List.length_append]; rfl) | (rw [eB]; exact sq_s rfl (fun _ _ _ _ => rfl) rfl rfl) | (exact Eq.refl _) | (exact Nat.le_of_ble_eq_true rfl))))
              trivial
            refine ⟨fun h14 => ?_, fun h14 => ?_⟩
            · skip
              have c14 := h14
              (simp only [bsX] at c14)
              have hi : i < b.ps.length := by omega
              have hdl := dB_len ha hb i (by omega)
              have hdl1 := dB_len ha hb (i + 1) hi
              have hM := dB_next (a := a) hi
              have hl1 : (dB a b i).length + (d4 a (pA b i)).length = (dB a b (i + 1)).length := by rw [hM]; simp
              repeat (refine Ob.mk ?_ ?_; focus (first | assumption | omega))
              refine ⟨_, _, _, _, (cf_FindF (c := a) (k := (pA b i).k) ha), ?_⟩
              repeat (refine Ob.mk ?_ ?_; focus (first | (exact fun _ _ _ _ => rfl) | (exact Eq.refl _)))
              refine ⟨[0, 1, 3, 7, 15, 7, 63, 127, 7, 511, 1023], by kernel_rfl, ?_⟩
              repeat (refine Ob.mk ?_ ?_; focus (first | (exact fun hq => ⟨(fI_in (by simpa using hq)).1, (fI_in (by simpa using hq)).2.1⟩) | (exact fun hq => (fI_in (by simpa using hq)).2.2.1) | (exact fun hg => hg)))
              refine gx (fun hc => (cf_gone (p := fP a.ps (pA b i).k) (q := pA b i))) (fun hk => ⟨hk, ?_⟩)
              repeat (refine Ob.mk ?_ ?_; (focus (first | (exact fun _ _ _ _ _ => rfl) | (intro _; exact Eq.refl _) | (exact fun hg => beq_f hg) | (exact fun hg => hg))))
              refine ⟨fun h15 => ?_, fun h15 => ?_⟩
              · skip
                have c15 := h15
                (simp only [bsX] at c15)
                have h4 : d4 a (pA b i) = showP (pA b i) := if_pos c15
                rw [h4] at hM hl1
                refine ⟨_, _, _, _, (cf_PeerQO (p := pA b i) (hb.ps _ (pA_mem hi)).1), ?_⟩
                repeat (refine Ob.mk ?_ ?_; (focus (first | (exact fun _ _ _ _ => rfl) | (exact Eq.refl _) | omega | (simp only [SrcE.len, Nat.zero_add, List.length_append, List.length_cons, List.length_nil]; omega))))
                refine ⟨i + 1, (by assumption), (by (simp only [SrcE.len, Nat.zero_add, List.length_append, List.length_cons, List.length_nil]; omega)), ?_⟩
                repeat (refine Ob.mk ?_ ?_; focus (first | (exact hl1) | (exact sq_app stq hM rfl) | (exact fun _ _ _ _ => rfl) | (exact Eq.refl _) | (exact Nat.le_of_ble_eq_true rfl)))
                trivial
              · skip
                have c15 := h15
                (simp only [bsX] at c15)
                have hfe := (c15).1
                have hfi := fI_in hfe
                have h4 : d4 a (pA b i) = chP (fP a.ps (pA b i).k) (pA b i) := if_neg (by rintro (h | h); exact h (c15).1; exact absurd (h.symm.trans (c15).2) (by decide))
                rw [h4] at hM hl1
                refine ⟨[0, 0, 2, 0, 14, 30, 0, 126, 255, 511], by kernel_rfl, ?_⟩
                repeat (refine Ob.mk ?_ ?_; focus (omega))
                refine ⟨_, _, _, _, (cf_changeO (p := fP a.ps (pA b i).k) (q := pA b i) (ha.ps _ hfi.2.2.2.1).1 (hb.ps _ (pA_mem hi)).1), ?_⟩
                repeat (refine Ob.mk ?_ ?_; (focus (first | (exact fun _ _ _ _ => rfl) | (exact Eq.refl _) | omega | (simp only [SrcE.len, Nat.zero_add, List.length_append, List.length_cons, List.length_nil]; omega))))
                refine ⟨i + 1, (by assumption), (by (simp only [SrcE.len, Nat.zero_add, List.length_append, List.length_cons, List.length_nil]; omega)), ?_⟩
                repeat (refine Ob.mk ?_ ?_; focus (first | (exact hl1) | (exact sq_app stq hM rfl) | (exact fun _ _ _ _ => rfl) | (exact Eq.refl _) | (exact Nat.le_of_ble_eq_true rfl)))
                trivial
            · skip
              have c14 := h14
              (simp only [bsX] at c14)
              obtain rfl : i = b.ps.length := by omega
              have hdl := dB_len ha hb b.ps.length (Nat.le_refl _)
              repeat (refine Ob.mk ?_ ?_; (focus (first | (exact fun _ _ _ _ => rfl) | (exact Eq.refl _) | (simp only [SrcE.len, Nat.zero_add, List.length_append, List.length_cons, List.length_nil]; omega))))
              trivial
          · skip
            have c13 := h13
            (simp only [bsX] at c13)
            have e3 : d3 a b = [] := if_pos (by simpa using h13)
            have eB : dB a b 0 = dA a b a.ps.length ++ d2 a b ++ d3 a b := List.append_nil _
            rw [e2, e3] at eB
            try simp only [List.append_nil] at eB
            refine ⟨Nat, fun i => ⟨[(2, .own 1002 0), (3, .own 1003 0), (9, .osl 61 (dB a b i).length), (96, peersE b.ps), (97, .i (b.ps.length : Int)), (98, .i (i : Int))], [(1002, .box [.s a.k, .i a.port, peersE a.ps] 67), (1003, .box [.s b.k, .i b.port, peersE b.ps] 67), (61, .rz (dB a b i).length 5 (stQ (dB a b i)) 53 0)]⟩, fun i => i ≤ b.ps.length, fun i => b.ps.length - i, 0, Nat.zero_le _, ?_, fun i hx3 => ?_⟩
            · skip
              repeat (refine Ob.mk ?_ ?_; (focus (first | (exact fun _ _ _ _ => rfl) | (exact Eq.refl _) | omega | (intro hg; ((intro hq; ((simp_all; done))))) | (simp_all; done))))
              trivial
            refine ⟨fun h16 => ?_, fun h16 => ?_⟩
            · skip
              have c16 := h16
              (simp only [bsX] at c16)
              have hi : i < b.ps.length := by omega
              have hdl := dB_len ha hb i (by omega)
              have hdl1 := dB_len ha hb (i + 1) hi
              have hM := dB_next (a := a) hi
              have hl1 : (dB a b i).length + (d4 a (pA b i)).length = (dB a b (i + 1)).length := by rw [hM]; simp
              repeat (refine Ob.mk ?_ ?_; focus (first | assumption | omega))
              refine ⟨_, _, _, _, (cf_FindF (c := a) (k := (pA b i).k) ha), ?_⟩
              repeat (refine Ob.mk ?_ ?_; focus (first | (exact fun _ _ _ _ => rfl) | (exact Eq.refl _)))
              refine ⟨[0, 1, 3, 7, 15, 7, 63, 127, 7, 511, 1023], by kernel_rfl, ?_⟩
              repeat (refine Ob.mk ?_ ?_; focus (first | (exact fun hq => ⟨(fI_in (by simpa using hq)).1, (fI_in (by simpa using hq)).2.1⟩) | (exact fun hq => (fI_in (by simpa using hq)).2.2.1) | (exact fun hg => hg)))
              refine gx (fun hc => (cf_gone (p := fP a.ps (pA b i).k) (q := pA b i))) (fun hk => ⟨hk, ?_⟩)
              repeat (refine Ob.mk ?_ ?_; (focus (first | (exact fun _ _ _ _ _ => rfl) | (intro _; exact Eq.refl _) | (exact fun hg => beq_f hg) | (exact fun hg => hg))))
              refine ⟨fun h17 => ?_, fun h17 => ?_⟩
              · skip
                have c17 := h17
                (simp only [bsX] at c17)
                have h4 : d4 a (pA b i) = showP (pA b i) := if_pos c17
                rw [h4] at hM hl1
                refine ⟨_, _, _, _, (cf_PeerQO (p := pA b i) (hb.ps _ (pA_mem hi)).1), ?_⟩
                repeat (refine Ob.mk ?_ ?_; (focus (first | (exact fun _ _ _ _ => rfl) | (exact Eq.refl _) | omega | (simp only [SrcE.len, Nat.zero_add, List.length_append, List.length_cons, List.length_nil]; omega))))
                refine ⟨i + 1, (by assumption), (by (simp only [SrcE.len, Nat.zero_add, List.length_append, List.length_cons, List.length_nil]; omega)), ?_⟩
                repeat (refine Ob.mk ?_ ?_; focus (first | (exact hl1) | (exact sq_app stq hM rfl) | (exact fun _ _ _ _ => rfl) | (exact Eq.refl _) | (exact Nat.le_of_ble_eq_true rfl)))
                trivial
              · skip
                have c17 := h17
                (simp only [bsX] at c17)
                have hfe := (c17).1
                have hfi := fI_in hfe
                have h4 : d4 a (pA b i) = chP (fP a.ps (pA b i).k) (pA b i) := if_neg (by rintro (h | h); exact h (c17).1; exact absurd (h.symm.trans (c17).2) (by decide))
                rw [h4] at hM hl1
                refine ⟨[0, 0, 2, 0, 14, 30, 0, 126, 255, 511], by kernel_rfl, ?_⟩
                repeat (refine Ob.mk ?_ ?_; focus (omega))
                refine ⟨_, _, _, _, (cf_changeO (p := fP a.ps (pA b i).k) (q := pA b i) (ha.ps _ hfi.2.2.2.1).1 (hb.ps _ (pA_mem hi)).1), ?_⟩
                repeat (refine Ob.mk ?_ ?_; (focus (first | (exact fun _ _ _ _ => rfl) | (exact Eq.refl _) | omega | (simp only [SrcE.len, Nat.zero_add, List.length_append, List.length_cons, List.length_nil]; omega))))
                refine ⟨i + 1, (by assumption), (by (simp only [SrcE.len, Nat.zero_add, List.length_append, List.length_cons, List.length_nil]; omega)), ?_⟩
                repeat (refine Ob.mk ?_ ?_; focus (first | (exact hl1) | (exact sq_app stq hM rfl) | (exact fun _ _ _ _ => rfl) | (exact Eq.refl _) | (exact Nat.le_of_ble_eq_true rfl)))
                trivial
            · skip
              have c16 := h16
              (simp only [bsX] at c16)
              obtain rfl : i = b.ps.length := by omega
              have hdl := dB_len ha hb b.ps.length (Nat.le_refl _)
              repeat (refine Ob.mk ?_ ?_; (focus (first | (exact fun _ _ _ _ => rfl) | (exact Eq.refl _) | (simp only [SrcE.len, Nat.zero_add, List.length_append, List.length_cons, List.length_nil]; omega))))
              trivial
end Go.Proofs.YtfpglljpngiipaaDoor
