/- The three statements about replay windows: what they have in common. -/
import Derived.Test.YtnopdnclefopbaaTaken
namespace Go.Proofs.Ytnopdnclefopbaa
open Go.RowKit
set_option linter.unusedVariables false

theorem check_ok (s : Bool) (l b : Nat) (w : World) (h : SeenOk s l b) :
    Calls Try.prog 37 #[seenV s l b] w fun e w' => e = .returned (.int .i64 0) ∧ Below w.heap.size w w' := by
  unfold SeenOk at h
  cases s with
  | false =>
    obtain ⟨rfl, rfl⟩ : l = 0 ∧ b = 0 := by simpa using h
    exact check_none w
  | true =>
    obtain ⟨h1, h2, h3, h4⟩ : l ≤ 1099511627776 ∧ b < 18446744073709551616 ∧ b % 2 = 1 ∧ (l < 63 → b < 2 ^ (l + 1)) := by simpa using h
    exact check_some l b w h1 h2 h3 h4
theorem max_of (came : List Nat) (l : Nat) (h1 : l ∈ came) (h2 : ∀ c ∈ came, c ≤ l) : Lib.maxOf (came.map fun c : Nat => (c : Int)) = (l : Int) := by
  have gen : ∀ (zs : List Int) (a L : Int), (∀ c ∈ zs, c ≤ L) → a ≤ L → (L ∈ zs ∨ a = L) → zs.foldl max a = L := by
    intro zs
    induction zs with
    | nil => intro a L _ h1 h2; rcases h2 with h2 | h2
             · cases h2
             · exact h2
    | cons z zs ih =>
      intro a L h0 h1 h2
      have hz := h0 z (by simp)
      rw [List.foldl_cons]
      refine ih _ L (fun c hc => h0 c (by simp [hc])) (by omega) ?_
      rcases h2 with h2 | h2
      · rcases List.mem_cons.1 h2 with h2 | h2
        · right; omega
        · exact .inl h2
      · right; omega
  unfold Lib.maxOf
  have hm : ∀ c ∈ came.map (fun c : Nat => (c : Int)), c ≤ (l : Int) := fun c hc => by
    obtain ⟨x, hx, rfl⟩ := List.mem_map.1 hc
    have := h2 x hx; omega
  have hl : (l : Int) ∈ came.map (fun c : Nat => (c : Int)) := List.mem_map.2 ⟨l, h1, rfl⟩
  refine gen _ _ _ hm ?_ (.inl hl)
  cases came with
  | nil => cases h1
  | cons a t => exact hm _ (by simp)
theorem max_ints {v : Value} {came : List Nat} {w : World} (l : Nat) (hb : Ints w v (came.map fun c : Nat => (c : Int))) (h1 : l ∈ came) (h2 : ∀ c ∈ came, c ≤ l) :
    Calls Try.prog 39 #[v] w fun e w' => e = .returned (.int .i64 (l : Int)) ∧ w = w' := by
  have hl : 0 < (came.map fun c : Nat => (c : Int)).length := by rw [List.length_map]; exact List.length_pos_of_mem h1
  have hm := max_of came l h1 h2
  generalize (came.map fun c : Nat => (c : Int)) = zs at *
  obtain ⟨a, c, rfl, h3, h4, h5, h6⟩ := hb
  obtain ⟨b, off, rfl, hlt, hc⟩ := h6 hl
  refine (Try.slices_Max_int b off zs.length c zs w hl (Nat.le_refl _) (by unfold maxLen at h4; omega) (fun j hj => ?_)).mono fun _ _ ⟨h, hw⟩ => ⟨by rw [h, List.take_length, hm], hw.symm⟩
  rw [hc j zs[j] (List.getElem?_eq_getElem hj)]; simp [List.getD_eq_getElem?_getD, List.getElem?_eq_getElem hj]
end Go.Proofs.Ytnopdnclefopbaa
