/- BatchBack: the walk of the statement's function. -/
import Derived.Test.YtcebndkiagbddaaDoorCBatchS
namespace Go.Proofs.YtcebndkiagbddaaDoor
open Go.RowKit Go.Lib
set_option linter.unusedVariables false
set_option linter.unusedSimpArgs false

theorem ls1_is {x : SetS} (h : chkS x = 0) : lineS x = ((wrd x.k.toNat, valS x), 0) := by unfold lineS; rw [if_pos h]
theorem ls1_back {x : SetS} (h : chkS x = 0) (hp : x.p.length ≤ 32) : readS (ls1 x) = (x, 0) ∧ lnC (ls1 x).1 (ls1 x).2 = 0 ∧ (ltxt (ls1 x)).length ≤ 95 := by
  have e : ls1 x = (wrd x.k.toNat, valS x) := congrArg Prod.fst (ls1_is h)
  rw [e]
  refine ⟨read_line h hp, line_okL h hp, ?_⟩
  obtain ⟨h1, h2, _⟩ := chk_inv h
  have a := (wrd_at h1 h2).2.2.2
  have b := (val_okV h hp).2
  show (wrd x.k.toNat ++ 61 :: valS x).length ≤ 95
  rw [List.length_append, List.length_cons]; omega
theorem jtx_len95 {L : List LnP} (h : ∀ x ∈ L, (ltxt x).length ≤ 95) : (jtx L).length ≤ 96 * L.length := by
  induction L with
  | nil => exact Nat.le_refl _
  | cons x xs ih =>
    have hx := h x (by simp)
    have ih := ih fun y hy => h y (List.mem_cons_of_mem _ hy)
    cases xs with
    | nil => unfold jtx; rw [List.map_cons, List.map_nil, Lib.join_one]; simp only [List.length_cons, List.length_nil]; omega
    | cons y ys =>
      unfold jtx at ih ⊢
      rw [List.map_cons, List.map_cons, join_cons2, List.length_append, List.length_append]
      rw [List.map_cons] at ih
      simp only [List.length_cons, List.length_nil] at ih ⊢
      omega
theorem prR_ok {M : List LnP} (h : ∀ x ∈ M, (readS x).2 = 0) : prR [] 0 M = (M.map rs1, 0, 0) := by
  have key : ∀ (M : List LnP) (acc : List SetS) (i : Nat), (∀ x ∈ M, (readS x).2 = 0) → prR acc i M = (acc ++ M.map rs1, 0, 0) := by
    intro M
    induction M with
    | nil => intro acc i _; simp [prR]
    | cons x xs ih =>
      intro acc i hM
      unfold prR
      rw [if_pos (hM x (by simp)), ih _ _ fun y hy => hM y (List.mem_cons_of_mem _ hy)]
      simp
  exact key M [] 0 h
theorem sets_back {L : List SetS} (hL : ∀ x ∈ L, chkS x = 0 ∧ x.p.length ≤ 32) (hn : L.length ≤ 30) :
    printR L = (jtx (L.map ls1), 0) ∧ parseR (jtx (L.map ls1)) = (L, 0, 0) ∧ (jtx (L.map ls1)).length ≤ 3000 := by
  have hM : ∀ x ∈ L.map ls1, lnC x.1 x.2 = 0 := fun x hx => by
    obtain ⟨y, hy, rfl⟩ := List.mem_map.1 hx
    exact (ls1_back (hL y hy).1 (hL y hy).2).2.1
  have hlen : (jtx (L.map ls1)).length ≤ 3000 := by
    have := jtx_len95 (L := L.map ls1) fun x hx => by
      obtain ⟨y, hy, rfl⟩ := List.mem_map.1 hx
      exact (ls1_back (hL y hy).1 (hL y hy).2).2.2
    rw [List.length_map] at this; omega
  have hb := back_ok (L := L.map ls1) (by rw [List.length_map]; omega) hM hlen
  refine ⟨?_, ?_, hlen⟩
  · unfold printR
    rw [prnE_all fun x hx => congrArg Prod.snd (ls1_is (hL x hx).1), if_pos rfl]
    exact hb.1
  · unfold parseR
    rw [hb.2, if_pos rfl]
    rw [prR_ok fun x hx => by
      obtain ⟨y, hy, rfl⟩ := List.mem_map.1 hx
      exact congrArg Prod.snd (ls1_back (hL y hy).1 (hL y hy).2).1, List.map_map]
    have e : L.map (rs1 ∘ ls1) = L := (List.map_congr_left (g := id) fun x hx => congrArg Prod.fst (ls1_back (hL x hx).1 (hL x hx).2).1).trans (List.map_id _)
    rw [e]
theorem val_N {s : SetS} (h : s.k = 2 ∨ s.k = 8) : valS s = itoa s.n := by unfold valS; rw [if_pos (isN_iff.2 h)]
theorem val_T {s : SetS} (h : s.k = 3 ∨ s.k = 5 ∨ s.k = 9) : valS s = tru := by unfold valS; rw [if_neg (by rw [isN_no (by omega) (by omega)]; decide), if_pos h]
theorem val_P {s : SetS} (h : s.k = 10) : valS s = netT s.p := by unfold valS; rw [if_neg (by rw [isN_no (by omega) (by omega)]; decide), if_neg (by omega), if_pos h]
theorem val_Z {s : SetS} (h : s.k = 6) (ht : s.t = []) : valS s = zs64 := by unfold valS; rw [if_neg (by rw [isN_no (by omega) (by omega)]; decide), if_neg (by omega), if_neg (by omega), if_pos ⟨h, ht⟩]
theorem val_S {s : SetS} (h : s.k ≠ 2 ∧ s.k ≠ 8 ∧ s.k ≠ 3 ∧ s.k ≠ 5 ∧ s.k ≠ 9 ∧ s.k ≠ 10) (h6 : ¬ (s.k = 6 ∧ s.t = [])) : valS s = s.t := by
  unfold valS; rw [if_neg (by rw [isN_no (by omega) (by omega)]; decide), if_neg (by omega), if_neg (by omega), if_neg h6]
abbrev wrds : List (List UInt8) := [[], wrd 1, wrd 2, wrd 3, wrd 4, wrd 5, wrd 6, wrd 7, wrd 8, wrd 9, wrd 10]
theorem wrds_at : ∀ k : Fin 11, wrds.getD k.val [] = wrd k.val := by decide
theorem wl0 (k : Nat) : (wrds.getD k []).length ≤ 30 := by
  by_cases h : k < 11
  · have : ∀ k : Fin 11, (wrds.getD k.val []).length ≤ 30 := by decide
    exact this ⟨k, h⟩
  · rw [List.getD_eq_getElem?_getD, List.getElem?_eq_none (by show 11 ≤ k; omega)]; exact Nat.zero_le _
theorem wl1 (k : Nat) : (wrds.getD k []).length + ([61] : List UInt8).length ≤ 9223372036854775807 := by
  have := wl0 k; rw [List.length_singleton]; omega
theorem wl2 (k : Nat) {v : List UInt8} (h : v.length ≤ 64) : (wrds.getD k [] ++ [61]).length + v.length ≤ 9223372036854775807 := by
  have := wl0 k; rw [List.length_append, List.length_singleton]; omega
end Go.Proofs.YtcebndkiagbddaaDoor
