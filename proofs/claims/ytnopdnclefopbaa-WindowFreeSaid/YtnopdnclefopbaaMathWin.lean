/- Plain facts about replay windows: which list of counters a state stands for. No program in sight. -/
import Derived.Test.YtnopdnclefopbaaWindow
namespace Go.Proofs.Ytnopdnclefopbaa
set_option linter.unusedVariables false

/-- The state (s, l, b) stands for the counters that came. -/
def Rep (came : List Nat) (s : Bool) (l b : Nat) : Prop :=
  (came = [] ∧ s = false ∧ l = 0 ∧ b = 0) ∨
  (s = true ∧ l ∈ came ∧ (∀ c ∈ came, c ≤ l) ∧ b < 2 ^ 64 ∧ ∀ i, i < 64 → b.testBit i = decide (i ≤ l ∧ l - i ∈ came))
theorem rep_nil : Rep [] false 0 0 := .inl ⟨rfl, rfl, rfl, rfl⟩
theorem rep_ok {came : List Nat} {s : Bool} {l b : Nat} (h : Rep came s l b) (hc : ∀ c ∈ came, c ≤ 1099511627776) : SeenOk s l b := by
  unfold SeenOk
  rcases h with ⟨_, rfl, rfl, rfl⟩ | ⟨rfl, h1, h2, h3, h4⟩
  · simp
  · rw [if_pos rfl]
    refine ⟨hc _ h1, by simpa using h3, ?_, fun hl => ?_⟩
    · have := h4 0 (by omega)
      simp [h1] at this
      simpa [Nat.testBit_zero] using this
    · refine Nat.lt_pow_two_of_testBit _ fun i hi => ?_
      by_cases h5 : i < 64
      · rw [h4 i h5]; simp; omega
      · exact Nat.testBit_lt_two_pow (Nat.lt_of_lt_of_le h3 (Nat.pow_le_pow_right (by omega) (by omega)))
/-- A counter that came, or is too old. -/
def isLate (came : List Nat) (n : Nat) : Prop := n ∈ came ∨ ∃ c ∈ came, n + 64 ≤ c
theorem rep_has {came : List Nat} {s : Bool} {l b : Nat} (h : Rep came s l b) (n : Nat) : vHas s l b n = true ↔ isLate came n := by
  unfold vHas isLate
  rcases h with ⟨rfl, rfl, rfl, rfl⟩ | ⟨rfl, h1, h2, h3, h4⟩
  · simp
  · simp only [Bool.true_and, Bool.and_eq_true, Bool.or_eq_true, decide_eq_true_eq]
    constructor
    · rintro ⟨a1, a2 | a2⟩
      · exact .inr ⟨l, h1, by omega⟩
      · by_cases h5 : l - n < 64
        · rw [h4 _ h5] at a2
          have := (of_decide_eq_true a2).2
          rw [show l - (l - n) = n from by omega] at this
          exact .inl this
        · exact .inr ⟨l, h1, by omega⟩
    · rintro (a1 | ⟨c, a1, a2⟩)
      · have hn := h2 _ a1
        refine ⟨hn, ?_⟩
        by_cases h5 : l - n < 64
        · right; rw [h4 _ h5]; exact decide_eq_true ⟨by omega, by rw [show l - (l - n) = n from by omega]; exact a1⟩
        · left; omega
      · have := h2 _ a1
        exact ⟨by omega, .inl (by omega)⟩
theorem rep_take {came : List Nat} {s : Bool} {l b : Nat} (h : Rep came s l b) (n : Nat) (hn : ¬ isLate came n) : Rep (came ++ [n]) true (vTake s l b n).1 (vTake s l b n).2 := by
  right
  refine ⟨rfl, ?_⟩
  unfold vTake
  rcases h with ⟨rfl, rfl, rfl, rfl⟩ | ⟨rfl, h1, h2, h3, h4⟩
  · rw [if_pos rfl]
    refine ⟨by simp, by simp, by show (1 : Nat) < 2 ^ 64; decide, fun i hi => ?_⟩
    show Nat.testBit 1 i = _
    rw [show (1 : Nat) = 2 ^ 0 from rfl, Nat.testBit_two_pow, Bool.eq_iff_iff]
    simp
    omega
  · rw [if_neg (by simp)]
    by_cases hl : n ≤ l
    · rw [if_pos hl]
      have hk : l - n < 64 := Nat.lt_of_not_le fun h => hn (.inr ⟨l, h1, by omega⟩)
      refine ⟨by simp [h1], fun c hc => ?_, Nat.or_lt_two_pow h3 (Nat.pow_lt_pow_right (by omega) hk), fun i hi => ?_⟩
      · rcases List.mem_append.1 hc with hc | hc
        · exact h2 c hc
        · simp at hc; omega
      · rw [Nat.testBit_or, h4 i hi, Nat.testBit_two_pow, Bool.eq_iff_iff]
        simp only [Bool.or_eq_true, decide_eq_true_eq, List.mem_append, List.mem_singleton]
        constructor
        · rintro (⟨a1, a2⟩ | a1)
          · exact ⟨a1, .inl a2⟩
          · exact ⟨by omega, .inr (by omega)⟩
        · rintro ⟨a1, a2 | a2⟩
          · exact .inl ⟨a1, a2⟩
          · exact .inr (by omega)
    · rw [if_neg hl]
      have hm : b * 2 ^ min (n - l) 64 % 18446744073709551616 < 2 ^ 64 := Nat.mod_lt _ (by decide)
      refine ⟨by simp, fun c hc => ?_, Nat.or_lt_two_pow hm (by decide), fun i hi => ?_⟩
      · rcases List.mem_append.1 hc with hc | hc
        · have := h2 c hc; show c ≤ n; omega
        · simp at hc; show c ≤ n; omega
      · show ((b * 2 ^ min (n - l) 64 % 18446744073709551616) ||| 1).testBit i = decide (i ≤ n ∧ n - i ∈ came ++ [n])
        rw [Nat.testBit_or, show (18446744073709551616 : Nat) = 2 ^ 64 from rfl, Nat.testBit_mod_two_pow, Nat.testBit_mul_two_pow, show (1 : Nat) = 2 ^ 0 from rfl, Nat.testBit_two_pow, Bool.eq_iff_iff]
        simp only [Bool.or_eq_true, Bool.and_eq_true, decide_eq_true_eq, List.mem_append, List.mem_singleton]
        constructor
        · rintro (⟨_, a1, a2⟩ | a1)
          · rw [h4 _ (by omega)] at a2
            have a3 := of_decide_eq_true a2
            refine ⟨by omega, .inl ?_⟩
            rw [show n - i = l - (i - min (n - l) 64) from by omega]; exact a3.2
          · exact ⟨by omega, .inr (by omega)⟩
        · rintro ⟨a1, a2 | a2⟩
          · have := h2 _ a2
            refine .inl ⟨hi, by omega, ?_⟩
            rw [h4 _ (by omega)]
            refine decide_eq_true ⟨by omega, ?_⟩
            rw [show l - (i - min (n - l) 64) = n - i from by omega]; exact a2
          · exact .inr (by omega)
/-- The greatest of the counters; -1, if there is none. -/
def maxL (l : List Nat) : Int := l.foldl (fun (m : Int) (c : Nat) => if m < (c : Int) then (c : Int) else m) (-1)
theorem maxL_snoc (l : List Nat) (c : Nat) : maxL (l ++ [c]) = if maxL l < (c : Int) then (c : Int) else maxL l := by unfold maxL; rw [List.foldl_append]; rfl
theorem maxL_iff (l : List Nat) (x : Int) (hx : 0 ≤ x) : x ≤ maxL l ↔ ∃ c ∈ l, x ≤ (c : Int) := by
  have gen : ∀ (l : List Nat) (m : Int), x ≤ l.foldl (fun (m : Int) (c : Nat) => if m < (c : Int) then (c : Int) else m) m ↔ x ≤ m ∨ ∃ c ∈ l, x ≤ (c : Int) := by
    intro l
    induction l with
    | nil => intro m; simp
    | cons a l ih =>
      intro m
      rw [List.foldl_cons, ih]
      constructor
      · rintro (h | ⟨c, h1, h2⟩)
        · by_cases hm : m < (a : Int)
          · rw [if_pos hm] at h; exact .inr ⟨a, by simp, h⟩
          · rw [if_neg hm] at h; exact .inl h
        · exact .inr ⟨c, by simp [h1], h2⟩
      · rintro (h | ⟨c, h1, h2⟩)
        · left; show x ≤ if m < (a : Int) then (a : Int) else m; split <;> omega
        · rcases List.mem_cons.1 h1 with rfl | h1
          · left; show x ≤ if m < (c : Int) then (c : Int) else m; split <;> omega
          · exact .inr ⟨c, h1, h2⟩
  unfold maxL
  rw [gen]
  constructor
  · rintro (h | h)
    · omega
    · exact h
  · exact .inr
theorem maxL_bd (l : List Nat) (h : ∀ c ∈ l, c < 200) : -1 ≤ maxL l ∧ maxL l < 200 := by
  have gen : ∀ (l : List Nat) (m : Int), (∀ c ∈ l, c < 200) → -1 ≤ m → m < 200 → -1 ≤ l.foldl (fun (m : Int) (c : Nat) => if m < (c : Int) then (c : Int) else m) m ∧ l.foldl (fun (m : Int) (c : Nat) => if m < (c : Int) then (c : Int) else m) m < 200 := by
    intro l
    induction l with
    | nil => intro m _ h1 h2; exact ⟨h1, h2⟩
    | cons a l ih =>
      intro m hl h1 h2
      have ha := hl a (by simp)
      exact ih _ (fun c hc => hl c (by simp [hc])) (by show -1 ≤ if m < (a : Int) then (a : Int) else m; split <;> omega) (by show (if m < (a : Int) then (a : Int) else m) < 200; split <;> omega)
  exact gen l (-1) h (by omega) (by omega)
theorem late_iff (came : List Nat) (n : Nat) : isLate came n ↔ n ∈ came ∨ (64 : Int) ≤ maxL came - (n : Int) := by
  unfold isLate
  have h := maxL_iff came ((n : Int) + 64) (by omega)
  constructor
  · rintro (a | ⟨c, a1, a2⟩)
    · exact .inl a
    · right; have := h.2 ⟨c, a1, by omega⟩; omega
  · rintro (a | a)
    · exact .inl a
    · obtain ⟨c, a1, a2⟩ := h.1 (by omega)
      exact .inr ⟨c, a1, by omega⟩
end Go.Proofs.Ytnopdnclefopbaa
