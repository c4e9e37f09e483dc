/- package batch: texts parsed as settings, settings printed: plain facts and contracts. -/
import Derived.Test.YtcebndkiagbddaaDoorCBatchR
import Derived.Test.YtcebndkiagbddaaDoorCSets
namespace Go.Proofs.YtcebndkiagbddaaDoor
open Go.RowKit Go.Lib
set_option linter.unusedVariables false
set_option linter.unusedSimpArgs false

def prR (acc : List SetS) (i : Nat) : List LnP → List SetS × Int × Int
  | [] => (acc, 0, 0)
  | x :: xs => if (readS x).2 = 0 then prR (acc ++ [(readS x).1]) (i + 1) xs else ([], (i : Int) + 1, (readS x).2)
def parseR (s : List UInt8) : List SetS × Int × Int :=
  if (splitR s).2.2 = 0 then prR [] 0 (splitR s).1 else ([], (splitR s).2.1, (splitR s).2.2)
abbrev rs1 (x : LnP) : SetS := (readS x).1
abbrev ls1 (x : SetS) : LnP := (lineS x).1
theorem prR_at {L : List LnP} {i : Nat} (h : i < L.length) (acc : List SetS) : prR acc i (L.drop i) =
    if (readS (L.getD i ([], []))).2 = 0 then prR (acc ++ [rs1 (L.getD i ([], []))]) (i + 1) (L.drop (i + 1)) else ([], (i : Int) + 1, (readS (L.getD i ([], []))).2) := by
  rw [List.drop_eq_getElem_cons h, prR, List.getD_eq_getElem?_getD, List.getElem?_eq_getElem h]; rfl
theorem prR_cases : ∀ (L : List LnP) (acc : List SetS) (i : Nat),
    (prR acc i L = (acc ++ L.map rs1, 0, 0) ∧ ∀ x ∈ L, (readS x).2 = 0) ∨ (∃ n e : Int, prR acc i L = ([], n, e) ∧ e ≠ 0 ∧ (i : Int) < n)
  | [], acc, i => .inl ⟨by simp [prR], fun t h => by cases h⟩
  | x :: xs, acc, i => by
    unfold prR
    by_cases h : (readS x).2 = 0
    · rw [if_pos h]
      rcases prR_cases xs (acc ++ [(readS x).1]) (i + 1) with ⟨e, q⟩ | ⟨n, e, k1, k2, k3⟩
      · exact .inl ⟨by rw [e]; simp, fun y hy => (List.mem_cons.1 hy).elim (fun e => e ▸ h) (q y)⟩
      · exact .inr ⟨n, e, k1, k2, by omega⟩
    · rw [if_neg h]
      exact .inr ⟨_, _, rfl, h, by omega⟩
theorem prR_bad : ∀ (A B : List LnP) (acc : List SetS) (i : Nat) (x : LnP), (∀ y ∈ A, (readS y).2 = 0) → (readS x).2 ≠ 0 → prR acc i (A ++ x :: B) = ([], ((i + A.length : Nat) : Int) + 1, (readS x).2)
  | [], B, acc, i, x, _, h => by show prR acc i (x :: B) = _; unfold prR; rw [if_neg h]; rfl
  | y :: A, B, acc, i, x, ha, h => by
    show prR acc i (y :: (A ++ x :: B)) = _
    unfold prR
    rw [if_pos (ha y (by simp)), prR_bad A B _ _ x (fun z hz => ha z (List.mem_cons_of_mem _ hz)) h, List.length_cons, show i + 1 + A.length = i + (A.length + 1) by omega]
theorem split_okL {s : List UInt8} (h : (splitR s).2.2 = 0) : (∀ x ∈ (splitR s).1, lnC x.1 x.2 = 0) ∧ (splitR s).1.length ≤ 60 := by
  unfold splitR at h ⊢
  by_cases h1 : 3000 < s.length
  · rw [if_pos h1] at h; cases h
  rw [if_neg h1] at h ⊢
  by_cases h2 : s = []
  · rw [if_pos h2]; exact ⟨fun x hx => absurd hx (List.not_mem_nil), by decide⟩
  rw [if_neg h2] at h ⊢
  by_cases h3 : 60 < (spl 10 s).length
  · rw [if_pos h3] at h; cases h
  rw [if_neg h3] at h ⊢
  rcases lnR_cases (spl 10 s) [] 0 with ⟨e, q⟩ | ⟨n, e, k1, k2, k3, k4⟩
  · rw [e, List.nil_append]
    refine ⟨fun x hx => ?_, by show ((spl 10 s).map cutP).length ≤ 60; rw [List.length_map]; omega⟩
    obtain ⟨t, ht, rfl⟩ := List.mem_map.1 hx
    exact (q t ht).2
  · rw [k1] at h; exact absurd h k2
def prnE : List SetS → Int
  | [] => 0
  | x :: xs => if (lineS x).2 = 0 then prnE xs else (lineS x).2
def printR (L : List SetS) : List UInt8 × Int := if prnE L = 0 then joinR (L.map ls1) else ([], prnE L)
theorem prnE_at {L : List SetS} {i : Nat} (h : i < L.length) : prnE (L.drop i) = if (lineS (L.getD i set0)).2 = 0 then prnE (L.drop (i + 1)) else (lineS (L.getD i set0)).2 := by
  rw [List.drop_eq_getElem_cons h, prnE, List.getD_eq_getElem?_getD, List.getElem?_eq_getElem h]; rfl
theorem prnE_all {L : List SetS} (h : ∀ x ∈ L, (lineS x).2 = 0) : prnE L = 0 := by
  induction L with
  | nil => rfl
  | cons x xs ih =>
    unfold prnE
    rw [if_pos (h x (by simp))]
    exact ih fun y hy => h y (List.mem_cons_of_mem _ hy)
theorem form_rs {x : LnP} (h : (readS x).2 = 0) (hl : x.2.length ≤ 1100000) : formS (rs1 x) := by
  have hr := kind_range x.1 10
  by_cases h0 : kindOf x.1 10 = 0
  · rw [readS_0 h0] at h; cases h
  have e := readS_is (l := x) rfl h0
  have : readS x = (rdk (kindOf x.1 10) x.2, 0) := by
    rw [e] at h ⊢
    split at h
    · rename_i q; rw [if_pos q]
    · cases h
  show formS (readS x).1
  rw [this]
  exact form_rd hl (by omega) hr.2
/-- Parsed settings: their printed form is the text. -/
theorem parse_ok {s : List UInt8} (h : (parseR s).2.2 = 0) : printR (parseR s).1 = (s, 0) ∧ (∀ x ∈ (parseR s).1, formS x) ∧ (parseR s).1.length ≤ 60 := by
  unfold parseR at h ⊢
  by_cases h1 : (splitR s).2.2 = 0
  · rw [if_pos h1] at h ⊢
    have hL := (split_okL h1).1
    rcases prR_cases (splitR s).1 [] 0 with ⟨e, q⟩ | ⟨n, e, k1, k2, k3⟩
    · rw [e, List.nil_append]
      have hm : ((splitR s).1.map rs1).map ls1 = (splitR s).1 := by
        rw [List.map_map]
        refine (List.map_congr_left (g := id) fun x hx => ?_).trans (List.map_id _)
        exact congrArg Prod.fst (read_ok (q x hx)).1
      refine ⟨?_, fun y hy => ?_, by show ((splitR s).1.map rs1).length ≤ 60; rw [List.length_map]; exact (split_okL h1).2⟩
      · show printR ((splitR s).1.map rs1) = _
        unfold printR
        rw [prnE_all fun y hy => by
          obtain ⟨x, hx, rfl⟩ := List.mem_map.1 hy
          exact congrArg Prod.snd (read_ok (q x hx)).1, if_pos rfl, hm]
        exact (turns_ok h1).1
      · obtain ⟨x, hx, rfl⟩ := List.mem_map.1 hy
        exact form_rs (q x hx) (by have := (lnC_ok (hL x hx)).2.2.1; omega)
    · rw [k1] at h; exact absurd h k2
  · rw [if_neg h1] at h; exact absurd h h1
theorem parse_no {s : List UInt8} (h : (parseR s).2.2 ≠ 0) : (parseR s).1 = [] ∧ 0 ≤ (parseR s).2.1 := by
  unfold parseR at h ⊢
  by_cases h1 : (splitR s).2.2 = 0
  · rw [if_pos h1] at h ⊢
    rcases prR_cases (splitR s).1 [] 0 with ⟨e, q⟩ | ⟨n, e, k1, k2, k3⟩
    · rw [e] at h; exact absurd rfl h
    · rw [k1]; exact ⟨rfl, by show 0 ≤ n; omega⟩
  · rw [if_neg h1]; exact ⟨rfl, (turns_no h1).2.1⟩
theorem stF_map {A : Type} (f : A → SetS) (d : A) (L : List A) : ∀ i, i < L.length → ∀ j, j < 5 → (fun a b => stc (f (L.getD a d)) b) i j = stF (L.map f) i j := by
  intro i hi j hj
  show stc (f (L.getD i d)) j = stc ((L.map f).getD i set0) j
  rw [List.getD_eq_getElem?_getD, List.getD_eq_getElem?_getD, List.getElem?_map, List.getElem?_eq_getElem hi]; rfl
theorem lnF_map {A : Type} (f : A → LnP) (d : A) (L : List A) : ∀ i, i < L.length → ∀ j, j < 2 → (fun a b => lnc (f (L.getD a d)) b) i j = lnF (L.map f) i j := by
  intro i hi j hj
  show lnc (f (L.getD i d)) j = lnc ((L.map f).getD i ([], [])) j
  rw [List.getD_eq_getElem?_getD, List.getD_eq_getElem?_getD, List.getElem?_map, List.getElem?_eq_getElem hi]; rfl
theorem getD_in {A : Type} {L : List A} {d : A} {i : Nat} (h : i < L.length) : L.getD i d ∈ L := by
  rw [List.getD_eq_getElem?_getD, List.getElem?_eq_getElem h]; exact List.getElem_mem h
theorem take_map1 {A B : Type} (f : A → B) (d : A) {L : List A} {i : Nat} (h : i < L.length) : (L.take (i + 1)).map f = (L.take i).map f ++ [f (L.getD i d)] := by
  rw [List.take_add_one, List.getElem?_eq_getElem h, List.map_append, List.getD_eq_getElem?_getD, List.getElem?_eq_getElem h]; rfl
set_option maxRecDepth 100000 in
set_option maxHeartbeats 4000000 in
theorem cf_bParse {s : List UInt8} : Cf Tryd.prog 14 [] [.s s] [] (.tup [setsE (parseR s).1, .i (parseR s).2.1, .i (parseR s).2.2]) := by
  refine Cf.introR tabT {nl := [(8, 53, 5)]} D0 (by kernel_rfl) tab_ok Tryd.func14 Tryd.ntmps14 rfl rfl (D0_ok) (by kernel_rfl) ?_
  refine ⟨_, _, _, _, (cf_lnSplit (s := s)), ?_⟩
  repeat (refine Ob.mk ?_ ?_; focus ((exact Eq.refl _)))
  refine ⟨fun h1 => ?_, fun h1 => ?_⟩
  · skip
    have c1 := h1
    (simp only [bsX] at c1)
    have hz : ¬ (splitR s).2.2 = 0 := by simpa using h1
    have hR : parseR s = ([], (splitR s).2.1, (splitR s).2.2) := by unfold parseR; exact if_neg hz
    repeat (refine Ob.mk ?_ ?_; (focus (first | (rw [hR]; done) | (simp_all; done))))
    trivial
  · skip
    have c1 := h1
    (simp only [bsX] at c1)
    have hz : (splitR s).2.2 = 0 := by simpa using h1
    have hS : parseR s = prR [] 0 (splitR s).1 := by unfold parseR; exact if_pos hz
    have hLk := split_okL hz
    refine ⟨Nat, fun i => ⟨[(8, .osl 1008 i), (23, linesE (splitR s).1), (24, .i ((splitR s).1.length : Int)), (25, .i (i : Int))], [(1008, .rz i 5 (fun a b => stc (rs1 ((splitR s).1.getD a ([], []))) b) 53 0)]⟩, fun i => i ≤ (splitR s).1.length ∧ prR (((splitR s).1.take i).map rs1) i ((splitR s).1.drop i) = prR [] 0 (splitR s).1, fun i => (splitR s).1.length - i, 0, ⟨Nat.zero_le _, rfl⟩, ?_, fun i hx1 => ?_⟩
    · skip
      repeat (refine Ob.mk ?_ ?_; (focus (first | (exact Eq.refl _) | omega | (intro hg; ((intro hq; ((simp_all; done))))))))
      trivial
    refine ⟨fun h2 => ?_, fun h2 => ?_⟩
    · skip
      have c2 := h2
      (simp only [bsX] at c2)
      have hi : i < (splitR s).1.length := by omega
      have hL := prR_at hi (((splitR s).1.take i).map rs1)
      rw [hx1.2] at hL
      have hv := (lnC_ok (hLk.1 _ (getD_in (d := ([], [])) hi))).2.2.1
      repeat (refine Ob.mk ?_ ?_; focus (first | assumption | omega))
      refine ⟨_, _, _, _, (cf_bRead (l := (splitR s).1.getD i ([], [])) (by omega)), ?_⟩
      repeat (refine Ob.mk ?_ ?_; focus ((exact Eq.refl _)))
      refine ⟨fun h3 => ?_, fun h3 => ?_⟩
      · skip
        have c3 := h3
        (simp only [bsX] at c3)
        have hm : ¬ (readS ((splitR s).1.getD i ([], []))).2 = 0 := by simpa using h3
        rw [if_neg hm] at hL
        have hR := hS.trans hL
        repeat (refine Ob.mk ?_ ?_; (focus (first | (rw [hR]; done) | omega | (simp_all; done))))
        trivial
      · skip
        have c3 := h3
        (simp only [bsX] at c3)
        have hm : (readS ((splitR s).1.getD i ([], []))).2 = 0 := by simpa using h3
        rw [if_pos hm, ← take_map1 rs1 ([], []) hi] at hL
        have hx := hL.symm
        repeat (refine Ob.mk ?_ ?_; (focus (first | (exact Eq.refl _) | omega | (simp only [SrcE.len, Nat.zero_add, List.length_append, List.length_cons, List.length_nil]; omega))))
        refine ⟨i + 1, (by (simp_all; omega)), (by (simp only [SrcE.len, Nat.zero_add, List.length_append, List.length_cons, List.length_nil]; omega)), ?_⟩
        repeat (refine Ob.mk ?_ ?_; (focus (first | (exact ln_snoc (fun _ _ _ _ => rfl) (j5 (Eq.refl _) (Eq.refl _) (Eq.refl _) (Eq.refl _) (Eq.refl _))) | (exact Eq.refl _) | (exact Nat.le_of_ble_eq_true rfl) | (intro hg; ((intro hq; ((simp_all; done))))))))
        trivial
    · skip
      have c2 := h2
      (simp only [bsX] at c2)
      have hi : i = (splitR s).1.length := by have := hx1.1; omega
      subst hi
      have hR : parseR s = ((splitR s).1.map rs1, 0, 0) := by rw [hS, ← hx1.2, List.take_length, List.drop_length]; rfl
      have hml : ((splitR s).1.map rs1).length = (splitR s).1.length := List.length_map ..
      repeat (refine Ob.mk ?_ ?_; (focus (first | (rw [hR]; done) | (rw [hR]; exact hml.symm) | (rw [hR]; exact stF_map rs1 _ _) | (exact Eq.refl _))))
      trivial
end Go.Proofs.YtcebndkiagbddaaDoor
