/- Settings as values: what they read as, when they are equal. -/
import Derived.Test.YtcebndkiagbddaaDoorBatchF
import Derived.Test.YtcebndkiagbddaaDoorCNet
namespace Go.Proofs.YtcebndkiagbddaaDoor
open Go.RowKit Go.Lib
set_option linter.unusedVariables false
set_option linter.unusedSimpArgs false

def stc (s : SetS) : Nat → EV
  | 0 => .i s.k
  | 1 => .s s.t
  | 2 => .i s.n
  | 3 => .u32 (adr s.p)
  | _ => .i (s.p.length : Int)
abbrev stF (L : List SetS) : Nat → Nat → EV := fun i j => stc (L.getD i set0) j
abbrev setsE (L : List SetS) : EV := .lz L.length 5 (stF L)
theorem j5 {P : Nat → Prop} (h0 : P 0) (h1 : P 1) (h2 : P 2) (h3 : P 3) (h4 : P 4) : ∀ j, j < 5 → P j
  | 0, _ => h0
  | 1, _ => h1
  | 2, _ => h2
  | 3, _ => h3
  | 4, _ => h4
/-- A result by its values. -/
theorem Cf.resAv {P : Program} {f : FuncId} {hin hout : List (Nat × EB)} {ags : List EV} {r r' : EV} (h : r.av = r'.av) (k : Cf P f hin ags hout r) : Cf P f hin ags hout r' := by
  unfold Cf Ct at k ⊢
  rw [← h]; exact k
theorem lz_av {n sz : Nat} {F G : Nat → Nat → EV} (h : ∀ i, i < n → ∀ j, j < sz → (F i j).pv = (G i j).pv) : (EV.lz n sz F).av = (EV.lz n sz G).av := by
  unfold EV.av EV.pv
  refine congrArg (fun l => AV.p (PV.sl l n)) ?_
  have e : ∀ i ∈ List.range n, (List.range sz).map (fun j => (F i j).pv) = (List.range sz).map fun j => (G i j).pv := fun i hi =>
    List.map_congr_left fun j hj => h i (List.mem_range.1 hi) j (List.mem_range.1 hj)
  rw [List.flatMap_def, List.flatMap_def, List.map_congr_left e]
/-- A cell of a setting as it is made: the address as nothing, where none is set. -/
def stq (s : SetS) : Nat → EV
  | 3 => if s.k = 10 then .u32 (adr s.p) else .v (.int .u32 0)
  | j => stc s j
abbrev stQ (L : List SetS) : Nat → Nat → EV := fun i j => stq (L.getD i set0) j
theorem stq_pv2 {s : SetS} (h : s.k ≠ 10 → s.p = []) : ∀ j, j < 5 → (stq s j).pv = (stc s j).pv := by
  intro j hj
  match j, hj with
  | 0, _ => rfl
  | 1, _ => rfl
  | 2, _ => rfl
  | 4, _ => rfl
  | 3, _ =>
    show (if s.k = 10 then EV.u32 (adr s.p) else .v (.int .u32 0)).pv = (EV.u32 (adr s.p)).pv
    by_cases k : s.k = 10
    · rw [if_pos k]
    · rw [if_neg k, h k]; rfl
theorem setsQ_av {L : List SetS} (h : ∀ s ∈ L, s.k ≠ 10 → s.p = []) : (EV.lz L.length 5 (stQ L)).av = (setsE L).av :=
  lz_av fun i hi => stq_pv2 (by
    show (L.getD i set0).k ≠ 10 → (L.getD i set0).p = []
    rw [List.getD_eq_getElem?_getD, List.getElem?_eq_getElem hi]
    exact h _ (List.getElem_mem hi))
/-- Settings put one behind the other. -/
theorem sq_one {s : SetS} {X : List EV} (hX : X = [stq s 0, stq s 1, stq s 2, stq s 3, stq s 4]) : ∀ a, a < 1 → ∀ j, j < 5 → X.getD (a * 5 + j) .any = stQ [s] a j := by
  subst hX
  intro a ha j hj
  obtain rfl : a = 0 := by omega
  have : j = 0 ∨ j = 1 ∨ j = 2 ∨ j = 3 ∨ j = 4 := by omega
  rcases this with rfl | rfl | rfl | rfl | rfl <;> rfl
theorem sq_snoc {n : Nat} {L M : List SetS} {s : SetS} {f : Nat → Nat → EV} {X : List EV} (hf : ∀ a, a < n → ∀ j, j < 5 → f a j = stQ L a j) (hX : X = [stq s 0, stq s 1, stq s 2, stq s 3, stq s 4]) (hn : L.length = n) (hM : M = L ++ [s]) :
    ∀ a, a < n + 1 → ∀ j, j < 5 → (bif Nat.blt a n then f a j else X.getD ((a - n) * 5 + j) .any) = stQ M a j := by
  subst hX hM hn
  intro a ha j hj
  by_cases hq : a < L.length
  · have : Nat.blt a L.length = true := by simpa [Nat.blt_eq] using hq
    rw [this]
    refine (hf a hq j hj).trans ?_
    show stq (L.getD a set0) j = stq ((L ++ [s]).getD a set0) j
    rw [List.getD_eq_getElem?_getD, List.getD_eq_getElem?_getD, List.getElem?_append_left hq]
  · obtain rfl : a = L.length := by omega
    have : Nat.blt L.length L.length = false := by cases hb : Nat.blt L.length L.length with | false => rfl | true => (rw [Nat.blt_eq] at hb; omega)
    rw [this, Nat.sub_self, Nat.zero_mul, Nat.zero_add]
    show _ = stq ((L ++ [s]).getD L.length set0) j
    rw [List.getD_eq_getElem?_getD (l := L ++ [s]), List.getElem?_append_right (Nat.le_refl _), Nat.sub_self]
    have : j = 0 ∨ j = 1 ∨ j = 2 ∨ j = 3 ∨ j = 4 := by omega
    rcases this with rfl | rfl | rfl | rfl | rfl <;> rfl
theorem sq_s {n : Nat} {L M : List SetS} {s : SetS} {f : Nat → Nat → EV} {X : List EV} (hM : M = L ++ [s]) (hf : ∀ a, a < n → ∀ j, j < 5 → f a j = stQ L a j) (hX : X = [stq s 0, stq s 1, stq s 2, stq s 3, stq s 4]) (hn : L.length = n) :
    ∀ a, a < n + 1 → ∀ j, j < 5 → (bif Nat.blt a n then f a j else X.getD ((a - n) * 5 + j) .any) = stQ M a j := sq_snoc hf hX hn hM
theorem sq_0 {f : Nat → Nat → EV} {L : List SetS} : ∀ a, a < 0 → ∀ j, j < 5 → f a j = stQ L a j := fun _ h => absurd h (Nat.not_lt_zero _)
theorem sq_c {s : SetS} {O N : List SetS} {n : Nat} {f : Nat → Nat → EV} {X : List EV} (hN : N = s :: O) (hf : ∀ a, a < n → ∀ j, j < 5 → f a j = stQ O a j) (hX : X = [stq s 0, stq s 1, stq s 2, stq s 3, stq s 4]) :
    ∀ a, a < 1 + n → ∀ j, j < 5 → (bif Nat.blt a 1 then X.getD (a * 5 + j) .any else f (a - 1) j) = stQ N a j := by
  subst hN
  intro a ha j hj
  cases a with
  | zero => exact sq_one hX 0 (by decide) j hj
  | succ a => exact hf a (by omega) j hj
theorem sq_app {L M N : List SetS} {n : Nat} (g : SetS → Nat → EV) (hN : N = L ++ M) (hn : L.length = n) : ∀ a, a < n + M.length → ∀ j, j < 5 → (bif Nat.blt a n then g (L.getD a set0) j else g (M.getD (a - n) set0) j) = g (N.getD a set0) j := by
  subst hN hn
  intro a ha j hj
  by_cases hq : a < L.length
  · have : Nat.blt a L.length = true := by simpa [Nat.blt_eq] using hq
    rw [this]
    show g (L.getD a set0) j = g ((L ++ M).getD a set0) j
    rw [List.getD_eq_getElem?_getD, List.getD_eq_getElem?_getD, List.getElem?_append_left hq]
  · have : Nat.blt a L.length = false := by cases hb : Nat.blt a L.length with | false => rfl | true => (rw [Nat.blt_eq] at hb; omega)
    rw [this]
    show g (M.getD (a - L.length) set0) j = g ((L ++ M).getD a set0) j
    rw [List.getD_eq_getElem?_getD, List.getD_eq_getElem?_getD (l := L ++ M), List.getElem?_append_right (by omega)]
/-- Rows of five cells, one by one. -/
def rowsEq (F G : Nat → Nat → EV) : Nat → Prop
  | 0 => True
  | n + 1 => (F n 0 = G n 0 ∧ F n 1 = G n 1 ∧ F n 2 = G n 2 ∧ F n 3 = G n 3 ∧ F n 4 = G n 4) ∧ rowsEq F G n
theorem rows_n {F G : Nat → Nat → EV} : ∀ {N : Nat}, rowsEq F G N → ∀ i, i < N → ∀ j, j < 5 → F i j = G i j
  | 0, _, i, hi, _, _ => absurd hi (Nat.not_lt_zero _)
  | n + 1, h, i, hi, j, hj => by
    by_cases e : i = n
    · subst e
      exact j5 (P := fun j => F i j = G i j) h.1.1 h.1.2.1 h.1.2.2.1 h.1.2.2.2.1 h.1.2.2.2.2 j hj
    · exact rows_n h.2 i (by omega) j hj
end Go.Proofs.YtcebndkiagbddaaDoor
