/- Settings of raw things: plain facts and contracts. -/
import Derived.Test.YtcebndkiagbddaaDoorCBatchP
import Derived.Test.YtcebndkiagbddaaDoorClLine
import Derived.Test.YtcebndkiagbddaaDoorCEnds
namespace Go.Proofs.YtcebndkiagbddaaDoor
open Go.RowKit Go.Lib
set_option linter.unusedVariables false
set_option linter.unusedSimpArgs false

/-- The kind of a raw thing's setting. -/
def kdR (r : RawS) : Int := if pk r.b 3 = 0 then (if pk r.a 2 = 0 then 4 else 10) else 1 + pk r.k 10
def stK (k : Int) (r : RawS) : SetS :=
  ⟨k, if k = 1 ∨ k = 4 then keyS r.a else if k = 6 then (if pk r.b 2 = 0 then [] else keyS r.a) else if k = 7 then endL.getD (1 + pk r.a 4).toNat [] else [],
   if k = 2 ∨ k = 8 then pk r.a 65536 else 0, if k = 10 then netP r.k r.a r.b else []⟩
def stR (r : RawS) : SetS := stK (kdR r) r
theorem kdR_range (r : RawS) : 1 ≤ kdR r ∧ kdR r ≤ 10 := by
  have h1 := pk_ge r.k (m := 10) (by decide); have h2 := pk_lt r.k (m := 10) (by decide)
  unfold kdR
  split
  · split <;> omega
  · omega
theorem stK_chk (r : RawS) : ∀ k : Int, 1 ≤ k → k ≤ 10 → chkS (stK k r) = 0 := by
  intro k h1 h2
  rcases isT_10 k h1 h2 with rfl | rfl | rfl | rfl | rfl | rfl | rfl | rfl | rfl | rfl
  · exact (show chkS ⟨1, keyS r.a, 0, []⟩ = hexC (keyS r.a) from rfl).trans (keyS_ok _)
  · exact chk_num (.inl rfl) (pk_ge _ (by decide)) (by have := pk_lt r.a (m := 65536) (by decide); omega)
  · rfl
  · exact (show chkS ⟨4, keyS r.a, 0, []⟩ = hexC (keyS r.a) from rfl).trans (keyS_ok _)
  · rfl
  · show chkS ⟨6, if pk r.b 2 = 0 then [] else keyS r.a, 0, []⟩ = 0
    by_cases h : pk r.b 2 = 0
    · rw [if_pos h]; rfl
    · rw [if_neg h]
      have e : chkS ⟨6, keyS r.a, 0, []⟩ = if keyS r.a = [] then 0 else if keyS r.a = zs64 then 3 else hexC (keyS r.a) := rfl
      rw [e, keyS_ok, if_neg (keyS_zs _)]
      split <;> rfl
  · have h3 := pk_ge r.a (m := 4) (by decide); have h4 := pk_lt r.a (m := 4) (by decide)
    exact (show chkS ⟨7, endL.getD (1 + pk r.a 4).toNat [], 0, []⟩ = endE (endL.getD (1 + pk r.a 4).toNat []) from rfl).trans (end_ok ⟨(1 + pk r.a 4).toNat, by omega⟩ (by show (1 + pk r.a 4).toNat ≠ 0; omega))
  · exact chk_num (.inr rfl) (pk_ge _ (by decide)) (by have := pk_lt r.a (m := 65536) (by decide); omega)
  · rfl
  · rfl
theorem stR_chk (r : RawS) : chkS (stR r) = 0 := stK_chk r _ (kdR_range r).1 (kdR_range r).2
theorem stR_len (r : RawS) : (stR r).p.length ≤ 32 := by
  show (if kdR r = 10 then netP r.k r.a r.b else []).length ≤ 32
  split
  · exact netP_len
  · decide
theorem form_chk {s : SetS} (h : chkS s = 0) (hp : s.p.length ≤ 32) : formS s := by
  obtain ⟨h1, h2, ht, hn, hpp, hk, h6, h7, hnn⟩ := chk_inv h
  refine ⟨h1, h2, ht, hn, hpp, ?_, hnn, hp⟩
  cases hb : isT s.k with
  | false => rw [ht hb]; exact Nat.zero_le _
  | true =>
    rcases isT_iff.1 hb with e | e | e | e
    · have := (hexC_okV (hk (.inl e))).2; omega
    · have := (hexC_okV (hk (.inr e))).2; omega
    · rcases h6 e with k | ⟨_, k⟩
      · rw [k]; exact Nat.zero_le _
      · have := (hexC_okV k).2; omega
    · have := (endE_okV (h7 e)).2; omega
def stsL (l : List RawS) (m : Nat) : List SetS := (List.range (min l.length m)).map fun i => stR (rA l i)
theorem stsL_len (l : List RawS) (m : Nat) : (stsL l m).length = min l.length m := by unfold stsL; simp
theorem stsL_at (l : List RawS) (m : Nat) : ∀ i, i < min l.length m → ∀ j, j < 5 → (fun a b => stc (stR (rA l a)) b) i j = stF (stsL l m) i j := by
  intro i hi j hj
  show stc (stR (rA l i)) j = stc ((stsL l m).getD i set0) j
  unfold stsL
  rw [List.getD_eq_getElem?_getD, List.getElem?_map, List.getElem?_range hi]; rfl
theorem stsL_ok (l : List RawS) (m : Nat) : ∀ x ∈ stsL l m, chkS x = 0 ∧ x.p.length ≤ 32 ∧ formS x := fun x hx => by
  obtain ⟨i, _, rfl⟩ := List.mem_map.1 hx
  exact ⟨stR_chk _, stR_len _, form_chk (stR_chk _) (stR_len _)⟩
theorem stc3_0 {s : SetS} (h : s.p = []) : stc s 3 = .u32 0 := by
  show EV.u32 (adr s.p) = _
  rw [h]; rfl
theorem stK6_0 {r : RawS} (h : pk r.b 2 = 0) : stK 6 r = ⟨6, [], 0, []⟩ := by
  show SetS.mk 6 (if pk r.b 2 = 0 then [] else keyS r.a) 0 [] = _
  rw [if_pos h]
theorem stK6_1 {r : RawS} (h : pk r.b 2 = 1) : stK 6 r = ⟨6, keyS r.a, 0, []⟩ := by
  show SetS.mk 6 (if pk r.b 2 = 0 then [] else keyS r.a) 0 [] = _
  rw [if_neg (by omega)]
theorem pk2 (n : Int) : pk n 2 = 0 ∨ pk n 2 = 1 := by
  have h1 := pk_ge n (m := 2) (by decide); have h2 := pk_lt n (m := 2) (by decide); omega
theorem pk10 (n : Int) : pk n 10 = 0 ∨ pk n 10 = 1 ∨ pk n 10 = 2 ∨ pk n 10 = 3 ∨ pk n 10 = 4 ∨ pk n 10 = 5 ∨ pk n 10 = 6 ∨ pk n 10 = 7 ∨ pk n 10 = 8 ∨ pk n 10 = 9 := by
  have h1 := pk_ge n (m := 10) (by decide); have h2 := pk_lt n (m := 10) (by decide); omega
theorem cf_pickedI {n m q : Int} (hn : IntIn n) (hm : 0 < m) (hq : pk n m = q) : Cf Tryd.prog 10 [] [.i n, .i m] [] (.i q) := hq ▸ cf_picked hn.1 hn.2 hm
theorem stq_pv {r : RawS} : ∀ j, j < 5 → (stq (stR r) j).pv = (stc (stR r) j).pv := by
  intro j hj
  match j, hj with
  | 0, _ => rfl
  | 1, _ => rfl
  | 2, _ => rfl
  | 4, _ => rfl
  | 3, _ =>
    show (if (stR r).k = 10 then EV.u32 (adr (stR r).p) else .v (.int .u32 0)).pv = (EV.u32 (adr (stR r).p)).pv
    by_cases h : (stR r).k = 10
    · rw [if_pos h]
    · rw [if_neg h]
      have e : (stR r).p = [] := by
        show (if kdR r = 10 then netP r.k r.a r.b else []) = []
        exact if_neg h
      rw [e]; rfl
set_option maxRecDepth 100000 in
set_option maxHeartbeats 4000000 in
theorem cf_SettingsO {l : List RawS} {m : Nat} (hl : ∀ x ∈ l, x.inn) (hn : (l.length : Int) ≤ 9223372036854775807) (hm : m ≤ 100) : Cf Tryd.prog 11 [] [rawsE l, .i (m : Int)] [] (.lz (min l.length m) 5 (fun a b => stq (stR (rA l a)) b)) := by
  refine Cf.introR tabT {nl := [(5, 53, 5)]} (DR _ _ _ tabT {nl := [(5, 53, 5)]}) (by kernel_rfl) tab_ok Tryd.func11 Tryd.ntmps11 rfl rfl (DR_ok tab_ok (by kernel_rfl)) (by kernel_rfl) ?_
  refine ⟨Nat, fun i => ⟨[(1, .i (m : Int)), (5, .osl 1005 (min i m)), (9, rawsE l), (10, .i (l.length : Int)), (11, .i (i : Int))], [(1005, .rz (min i m) 5 (fun a b => stq (stR (rA l a)) b) 53 0)]⟩, fun i => i ≤ l.length ∧ i ≤ m, fun i => l.length - i, 0, ⟨Nat.zero_le _, Nat.zero_le _⟩, ?_, fun i hx1 => ?_⟩
  · skip
    repeat (refine Ob.mk ?_ ?_; focus (first | omega | (exact fun _ _ _ _ => rfl)))
    trivial
  refine ⟨fun h1 => ?_, fun h1 => ?_⟩
  · skip
    have c1 := h1
    (simp only [bsX] at c1)
    have hi : i < l.length := by omega
    have hI := rA_in hl hi
    obtain ⟨q, hq⟩ : ∃ q : Int, pk (rA l i).k 10 = q := ⟨_, rfl⟩
    obtain ⟨b2, hb2⟩ : ∃ q : Int, pk (rA l i).b 2 = q := ⟨_, rfl⟩
    obtain ⟨a2, ha2⟩ : ∃ q : Int, pk (rA l i).a 2 = q := ⟨_, rfl⟩
    have hq10 := pk10 (rA l i).k
    have hb22 := pk2 (rA l i).b
    have ha22 := pk2 (rA l i).a
    rw [hq] at hq10
    rw [hb2] at hb22
    rw [ha2] at ha22
    repeat (refine Ob.mk ?_ ?_; focus (omega))
    refine ⟨fun h2 => ?_, fun h2 => ?_⟩
    · skip
      have c2 := h2
      (simp only [bsX] at c2)
      have him : i = m := by have := hx1.2; omega
      repeat (refine Ob.mk ?_ ?_; focus (first | omega | (exact fun _ _ _ _ => rfl)))
      trivial
    · skip
      have c2 := h2
      (simp only [bsX] at c2)
      have him : min i m = i := by have := hx1.2; omega
      have him1 : min (i + 1) m = min i m + 1 := by (have := hx1.2); omega
      refine ⟨_, _, _, _, (cf_pickedI hI.1 (by decide) hq), ?_⟩
      repeat (refine Ob.mk ?_ ?_; focus (first | omega | (exact Eq.refl _)))
      refine ⟨_, _, _, _, (cf_pickedI (q := pk (rA l i).b 3) hI.2.2.1 (by decide) rfl), ?_⟩
      repeat (refine Ob.mk ?_ ?_; focus (first | omega | (exact Eq.refl _)))
      refine ⟨fun h3 => ?_, fun h3 => ?_⟩
      · skip
        have c3 := h3
        (simp only [bsX] at c3)
        rcases ha22 with rfl | rfl
        · skip
          refine ⟨_, _, _, _, (cf_pickedI hI.2.1 (by decide) ha2), ?_⟩
          repeat (refine Ob.mk ?_ ?_; focus (first | omega | (exact Eq.refl _)))
          have hkd : kdR (rA l i) = 4 := by unfold kdR; ((rw [if_pos c3, ha2]; rfl))
          have hE : stR (rA l (min i m)) = stK 4 (rA l i) := by rw [him]; unfold stR; rw [hkd]
          refine knF ?_
          refine knT ?_
          refine ⟨_, _, _, _, (cf_Key (n := (rA l i).a) hI.2.1), ?_⟩
          repeat (refine Ob.mk ?_ ?_; (focus (first | omega | (exact Eq.refl _) | (simp only [SrcE.len, Nat.zero_add, List.length_append, List.length_cons, List.length_nil]; omega))))
          refine ⟨i + 1, (by omega), (by (simp only [SrcE.len, Nat.zero_add, List.length_append, List.length_cons, List.length_nil]; omega)), ?_⟩
          repeat (refine Ob.mk ?_ ?_; (focus (first | (exact him1.symm) | (skip; exact ln_snoc (fun _ _ _ _ => rfl) (j5 (congrArg (stq · 0) hE).symm (congrArg (stq · 1) hE).symm (congrArg (stq · 2) hE).symm (congrArg (stq · 3) hE).symm (congrArg (stq · 4) hE).symm)) | omega | (exact fun _ _ _ _ => rfl) | (exact Nat.le_of_ble_eq_true rfl))))
          trivial
        · skip
          refine ⟨_, _, _, _, (cf_pickedI hI.2.1 (by decide) ha2), ?_⟩
          repeat (refine Ob.mk ?_ ?_; focus (first | omega | (exact Eq.refl _)))
          have hkd : kdR (rA l i) = 10 := by unfold kdR; ((rw [if_pos c3, ha2]; rfl))
          have hE : stR (rA l (min i m)) = stK 10 (rA l i) := by rw [him]; unfold stR; rw [hkd]
          refine knF ?_
          refine knF ?_
          refine knF ?_
          refine knF ?_
          refine knF ?_
          refine knF ?_
          refine knT ?_
          refine ⟨_, _, _, _, (cf_kNet (s := (rA l i).s) hI.1 hI.2.1 hI.2.2.1), ?_⟩
          repeat (refine Ob.mk ?_ ?_; (focus (first | omega | (exact Eq.refl _) | (simp only [SrcE.len, Nat.zero_add, List.length_append, List.length_cons, List.length_nil]; omega))))
          refine ⟨i + 1, (by omega), (by (simp only [SrcE.len, Nat.zero_add, List.length_append, List.length_cons, List.length_nil]; omega)), ?_⟩
          repeat (refine Ob.mk ?_ ?_; (focus (first | (exact him1.symm) | (skip; exact ln_snoc (fun _ _ _ _ => rfl) (j5 (congrArg (stq · 0) hE).symm (congrArg (stq · 1) hE).symm (congrArg (stq · 2) hE).symm (congrArg (stq · 3) hE).symm (congrArg (stq · 4) hE).symm)) | omega | (exact fun _ _ _ _ => rfl) | (exact Nat.le_of_ble_eq_true rfl))))
          trivial
      · skip
        have c3 := h3
        (simp only [bsX] at c3)
        rcases hq10 with rfl | rfl | rfl | rfl | rfl | rfl | rfl | rfl | rfl | rfl
        · skip
          have hkd : kdR (rA l i) = 1 := by unfold kdR; ((rw [if_neg c3, hq]; rfl))
          have hE : stR (rA l (min i m)) = stK 1 (rA l i) := by rw [him]; unfold stR; rw [hkd]
          refine knT ?_
          refine knT ?_
          refine ⟨_, _, _, _, (cf_Key (n := (rA l i).a) hI.2.1), ?_⟩
          repeat (refine Ob.mk ?_ ?_; (focus (first | omega | (exact Eq.refl _) | (simp only [SrcE.len, Nat.zero_add, List.length_append, List.length_cons, List.length_nil]; omega))))
          refine ⟨i + 1, (by omega), (by (simp only [SrcE.len, Nat.zero_add, List.length_append, List.length_cons, List.length_nil]; omega)), ?_⟩
          repeat (refine Ob.mk ?_ ?_; (focus (first | (exact him1.symm) | (skip; exact ln_snoc (fun _ _ _ _ => rfl) (j5 (congrArg (stq · 0) hE).symm (congrArg (stq · 1) hE).symm (congrArg (stq · 2) hE).symm (congrArg (stq · 3) hE).symm (congrArg (stq · 4) hE).symm)) | omega | (exact fun _ _ _ _ => rfl) | (exact Nat.le_of_ble_eq_true rfl))))
          trivial
        · skip
          have hkd : kdR (rA l i) = 2 := by unfold kdR; ((rw [if_neg c3, hq]; rfl))
          have hE : stR (rA l (min i m)) = stK 2 (rA l i) := by rw [him]; unfold stR; rw [hkd]
          refine knF ?_
          refine knF ?_
          refine knF ?_
          refine knF ?_
          refine knT ?_
          refine knT ?_
          refine ⟨_, _, _, _, (cf_pickedI (q := pk (rA l i).a 65536) hI.2.1 (by decide) rfl), ?_⟩
          repeat (refine Ob.mk ?_ ?_; (focus (first | omega | (exact Eq.refl _) | (simp only [SrcE.len, Nat.zero_add, List.length_append, List.length_cons, List.length_nil]; omega))))
          refine ⟨i + 1, (by omega), (by (simp only [SrcE.len, Nat.zero_add, List.length_append, List.length_cons, List.length_nil]; omega)), ?_⟩
          repeat (refine Ob.mk ?_ ?_; (focus (first | (exact him1.symm) | (skip; exact ln_snoc (fun _ _ _ _ => rfl) (j5 (congrArg (stq · 0) hE).symm (congrArg (stq · 1) hE).symm (congrArg (stq · 2) hE).symm (congrArg (stq · 3) hE).symm (congrArg (stq · 4) hE).symm)) | omega | (exact fun _ _ _ _ => rfl) | (exact Nat.le_of_ble_eq_true rfl))))
          trivial
        · skip
          have hkd : kdR (rA l i) = 3 := by unfold kdR; ((rw [if_neg c3, hq]; rfl))
          have hE : stR (rA l (min i m)) = stK 3 (rA l i) := by rw [him]; unfold stR; rw [hkd]
          refine knF ?_
          refine knF ?_
          refine knF ?_
          refine knF ?_
          refine knF ?_
          refine knF ?_
          refine knF ?_
          repeat (refine Ob.mk ?_ ?_; (focus (first | omega | (exact Eq.refl _) | (simp only [SrcE.len, Nat.zero_add, List.length_append, List.length_cons, List.length_nil]; omega))))
          refine ⟨i + 1, (by omega), (by (simp only [SrcE.len, Nat.zero_add, List.length_append, List.length_cons, List.length_nil]; omega)), ?_⟩
          repeat (refine Ob.mk ?_ ?_; (focus (first | (exact him1.symm) | (skip; exact ln_snoc (fun _ _ _ _ => rfl) (j5 (congrArg (stq · 0) hE).symm (congrArg (stq · 1) hE).symm (congrArg (stq · 2) hE).symm (congrArg (stq · 3) hE).symm (congrArg (stq · 4) hE).symm)) | omega | (exact fun _ _ _ _ => rfl) | (exact Nat.le_of_ble_eq_true rfl))))
          trivial
        · skip
          have hkd : kdR (rA l i) = 4 := by unfold kdR; ((rw [if_neg c3, hq]; rfl))
          have hE : stR (rA l (min i m)) = stK 4 (rA l i) := by rw [him]; unfold stR; rw [hkd]
          refine knF ?_
          refine knT ?_
          refine ⟨_, _, _, _, (cf_Key (n := (rA l i).a) hI.2.1), ?_⟩
          repeat (refine Ob.mk ?_ ?_; (focus (first | omega | (exact Eq.refl _) | (simp only [SrcE.len, Nat.zero_add, List.length_append, List.length_cons, List.length_nil]; omega))))
          refine ⟨i + 1, (by omega), (by (simp only [SrcE.len, Nat.zero_add, List.length_append, List.length_cons, List.length_nil]; omega)), ?_⟩
          repeat (refine Ob.mk ?_ ?_; (focus (first | (exact him1.symm) | (skip; exact ln_snoc (fun _ _ _ _ => rfl) (j5 (congrArg (stq · 0) hE).symm (congrArg (stq · 1) hE).symm (congrArg (stq · 2) hE).symm (congrArg (stq · 3) hE).symm (congrArg (stq · 4) hE).symm)) | omega | (exact fun _ _ _ _ => rfl) | (exact Nat.le_of_ble_eq_true rfl))))
          trivial
        · skip
          have hkd : kdR (rA l i) = 5 := by unfold kdR; ((rw [if_neg c3, hq]; rfl))
          have hE : stR (rA l (min i m)) = stK 5 (rA l i) := by rw [him]; unfold stR; rw [hkd]
          refine knF ?_
          refine knF ?_
          refine knF ?_
          refine knF ?_
          refine knF ?_
          refine knF ?_
          refine knF ?_
          repeat (refine Ob.mk ?_ ?_; (focus (first | omega | (exact Eq.refl _) | (simp only [SrcE.len, Nat.zero_add, List.length_append, List.length_cons, List.length_nil]; omega))))
          refine ⟨i + 1, (by omega), (by (simp only [SrcE.len, Nat.zero_add, List.length_append, List.length_cons, List.length_nil]; omega)), ?_⟩
          repeat (refine Ob.mk ?_ ?_; (focus (first | (exact him1.symm) | (skip; exact ln_snoc (fun _ _ _ _ => rfl) (j5 (congrArg (stq · 0) hE).symm (congrArg (stq · 1) hE).symm (congrArg (stq · 2) hE).symm (congrArg (stq · 3) hE).symm (congrArg (stq · 4) hE).symm)) | omega | (exact fun _ _ _ _ => rfl) | (exact Nat.le_of_ble_eq_true rfl))))
          trivial
        · skip
          have hkd : kdR (rA l i) = 6 := by unfold kdR; ((rw [if_neg c3, hq]; rfl))
          have hE : stR (rA l (min i m)) = stK 6 (rA l i) := by rw [him]; unfold stR; rw [hkd]
          refine knF ?_
          refine knF ?_
          refine ⟨fun h13 => ?_, fun h13 => ?_⟩
          · skip
            have c13 := h13
            (simp only [bsX] at c13)
            rcases (by omega : b2 = 0 ∨ b2 = 1) with rfl | rfl
            · skip
              rw [stK6_0 hb2] at hE
              refine ⟨[0, 1, 3, 7, 0, 16, 55, 127, 255, 511, 1023], by kernel_rfl, ?_⟩
              refine ⟨_, _, _, _, (cf_Key (n := (rA l i).a) hI.2.1), ?_⟩
              repeat (refine Ob.mk ?_ ?_; focus ((exact Eq.refl _)))
              refine ⟨_, _, _, _, (cf_pickedI (q := 0) hI.2.2.1 (by decide) hb2), ?_⟩
              repeat (refine Ob.mk ?_ ?_; (focus (first | omega | (exact Eq.refl _) | (simp only [SrcE.len, Nat.zero_add, List.length_append, List.length_cons, List.length_nil]; omega))))
              refine ⟨i + 1, (by omega), (by (simp only [SrcE.len, Nat.zero_add, List.length_append, List.length_cons, List.length_nil]; omega)), ?_⟩
              repeat (refine Ob.mk ?_ ?_; (focus (first | (exact him1.symm) | (skip; exact ln_snoc (fun _ _ _ _ => rfl) (j5 (congrArg (stq · 0) hE).symm (congrArg (stq · 1) hE).symm (congrArg (stq · 2) hE).symm (congrArg (stq · 3) hE).symm (congrArg (stq · 4) hE).symm)) | omega | (exact fun _ _ _ _ => rfl) | (exact Nat.le_of_ble_eq_true rfl))))
              trivial
            · skip
              rw [stK6_1 hb2] at hE
              refine ⟨[0, 1, 3, 7, 0, 16, 55, 127, 255, 511, 1023], by kernel_rfl, ?_⟩
              refine ⟨_, _, _, _, (cf_Key (n := (rA l i).a) hI.2.1), ?_⟩
              repeat (refine Ob.mk ?_ ?_; focus ((exact Eq.refl _)))
              refine ⟨_, _, _, _, (cf_pickedI (q := 1) hI.2.2.1 (by decide) hb2), ?_⟩
              repeat (refine Ob.mk ?_ ?_; (focus (first | omega | (exact Eq.refl _) | (simp only [SrcE.len, Nat.zero_add, List.length_append, List.length_cons, List.length_nil]; omega))))
              refine ⟨i + 1, (by omega), (by (simp only [SrcE.len, Nat.zero_add, List.length_append, List.length_cons, List.length_nil]; omega)), ?_⟩
              repeat (refine Ob.mk ?_ ?_; (focus (first | (exact him1.symm) | (skip; exact ln_snoc (fun _ _ _ _ => rfl) (j5 (congrArg (stq · 0) hE).symm (congrArg (stq · 1) hE).symm (congrArg (stq · 2) hE).symm (congrArg (stq · 3) hE).symm (congrArg (stq · 4) hE).symm)) | omega | (exact fun _ _ _ _ => rfl) | (exact Nat.le_of_ble_eq_true rfl))))
              trivial
          · skip
            have c13 := h13
            (simp only [bsX] at c13)
            exact absurd (show true = false from h13) (by decide)
        · skip
          have hkd : kdR (rA l i) = 7 := by unfold kdR; ((rw [if_neg c3, hq]; rfl))
          have hE : stR (rA l (min i m)) = stK 7 (rA l i) := by rw [him]; unfold stR; rw [hkd]
          refine knF ?_
          refine knF ?_
          refine knF ?_
          refine knT ?_
          have g1 := pk_ge (rA l i).a (m := 4) (by decide)
          have g2 := pk_lt (rA l i).a (m := 4) (by decide)
          refine ⟨[0, 0, 2, 1, 9, 25, 63, 127, 255, 511, 1023, 2047], by kernel_rfl, ?_⟩
          refine ⟨_, _, _, _, cf_kends, ?_⟩
          refine ⟨_, _, _, _, cf_kends, ?_⟩
          repeat (refine Ob.mk ?_ ?_; focus (omega))
          refine ⟨_, _, _, _, (cf_pickedI (m := 4) (q := pk (rA l i).a 4) hI.2.1 (by decide) rfl), ?_⟩
          repeat (refine Ob.mk ?_ ?_; (focus (first | omega | (exact Eq.refl _) | (simp only [SrcE.len, Nat.zero_add, List.length_append, List.length_cons, List.length_nil]; omega))))
          refine ⟨i + 1, (by omega), (by (simp only [SrcE.len, Nat.zero_add, List.length_append, List.length_cons, List.length_nil]; omega)), ?_⟩
          repeat (refine Ob.mk ?_ ?_; (focus (first | (exact him1.symm) | (skip; exact ln_snoc (fun _ _ _ _ => rfl) (j5 (congrArg (stq · 0) hE).symm (congrArg (stq · 1) hE).symm (congrArg (stq · 2) hE).symm (congrArg (stq · 3) hE).symm (congrArg (stq · 4) hE).symm)) | omega | (exact fun _ _ _ _ => rfl) | (exact Nat.le_of_ble_eq_true rfl))))
          trivial
        · skip
          have hkd : kdR (rA l i) = 8 := by unfold kdR; ((rw [if_neg c3, hq]; rfl))
          have hE : stR (rA l (min i m)) = stK 8 (rA l i) := by rw [him]; unfold stR; rw [hkd]
          refine knF ?_
          refine knF ?_
          refine knF ?_
          refine knF ?_
          refine knF ?_
          refine knT ?_
          refine ⟨_, _, _, _, (cf_pickedI (q := pk (rA l i).a 65536) hI.2.1 (by decide) rfl), ?_⟩
          repeat (refine Ob.mk ?_ ?_; (focus (first | omega | (exact Eq.refl _) | (simp only [SrcE.len, Nat.zero_add, List.length_append, List.length_cons, List.length_nil]; omega))))
          refine ⟨i + 1, (by omega), (by (simp only [SrcE.len, Nat.zero_add, List.length_append, List.length_cons, List.length_nil]; omega)), ?_⟩
          repeat (refine Ob.mk ?_ ?_; (focus (first | (exact him1.symm) | (skip; exact ln_snoc (fun _ _ _ _ => rfl) (j5 (congrArg (stq · 0) hE).symm (congrArg (stq · 1) hE).symm (congrArg (stq · 2) hE).symm (congrArg (stq · 3) hE).symm (congrArg (stq · 4) hE).symm)) | omega | (exact fun _ _ _ _ => rfl) | (exact Nat.le_of_ble_eq_true rfl))))
          trivial
        · skip
          have hkd : kdR (rA l i) = 9 := by unfold kdR; ((rw [if_neg c3, hq]; rfl))
          have hE : stR (rA l (min i m)) = stK 9 (rA l i) := by rw [him]; unfold stR; rw [hkd]
          refine knF ?_
          refine knF ?_
          refine knF ?_
          refine knF ?_
          refine knF ?_
          refine knF ?_
          refine knF ?_
          repeat (refine Ob.mk ?_ ?_; (focus (first | omega | (exact Eq.refl _) | (simp only [SrcE.len, Nat.zero_add, List.length_append, List.length_cons, List.length_nil]; omega))))
          refine ⟨i + 1, (by omega), (by (simp only [SrcE.len, Nat.zero_add, List.length_append, List.length_cons, List.length_nil]; omega)), ?_⟩
          repeat (refine Ob.mk ?_ ?_; (focus (first | (exact him1.symm) | (skip; exact ln_snoc (fun _ _ _ _ => rfl) (j5 (congrArg (stq · 0) hE).symm (congrArg (stq · 1) hE).symm (congrArg (stq · 2) hE).symm (congrArg (stq · 3) hE).symm (congrArg (stq · 4) hE).symm)) | omega | (exact fun _ _ _ _ => rfl) | (exact Nat.le_of_ble_eq_true rfl))))
          trivial
        · skip
          have hkd : kdR (rA l i) = 10 := by unfold kdR; ((rw [if_neg c3, hq]; rfl))
          have hE : stR (rA l (min i m)) = stK 10 (rA l i) := by rw [him]; unfold stR; rw [hkd]
          refine knF ?_
          refine knF ?_
          refine knF ?_
          refine knF ?_
          refine knF ?_
          refine knF ?_
          refine knT ?_
          refine ⟨_, _, _, _, (cf_kNet (s := (rA l i).s) hI.1 hI.2.1 hI.2.2.1), ?_⟩
          repeat (refine Ob.mk ?_ ?_; (focus (first | omega | (exact Eq.refl _) | (simp only [SrcE.len, Nat.zero_add, List.length_append, List.length_cons, List.length_nil]; omega))))
          refine ⟨i + 1, (by omega), (by (simp only [SrcE.len, Nat.zero_add, List.length_append, List.length_cons, List.length_nil]; omega)), ?_⟩
          repeat (refine Ob.mk ?_ ?_; (focus (first | (exact him1.symm) | (skip; exact ln_snoc (fun _ _ _ _ => rfl) (j5 (congrArg (stq · 0) hE).symm (congrArg (stq · 1) hE).symm (congrArg (stq · 2) hE).symm (congrArg (stq · 3) hE).symm (congrArg (stq · 4) hE).symm)) | omega | (exact fun _ _ _ _ => rfl) | (exact Nat.le_of_ble_eq_true rfl))))
          trivial
  · skip
    have c1 := h1
    (simp only [bsX] at c1)
    have hi : i = l.length := by have := hx1.1; omega
    subst hi
    repeat (refine Ob.mk ?_ ?_; focus (first | omega | (exact fun _ _ _ _ => rfl)))
    trivial
theorem cf_Settings {l : List RawS} {m : Nat} (hl : ∀ x ∈ l, x.inn) (hn : (l.length : Int) ≤ 9223372036854775807) (hm : m ≤ 100) : Cf Tryd.prog 11 [] [rawsE l, .i (m : Int)] [] (setsE (stsL l m)) := by
  refine Cf.resAv ?_ (cf_SettingsO hl hn hm)
  rw [← stsL_len l m]
  refine lz_av fun i hi j hj => ?_
  rw [← stsL_at l m i (by rw [← stsL_len l m]; exact hi) j hj]
  exact stq_pv j hj
end Go.Proofs.YtcebndkiagbddaaDoor
