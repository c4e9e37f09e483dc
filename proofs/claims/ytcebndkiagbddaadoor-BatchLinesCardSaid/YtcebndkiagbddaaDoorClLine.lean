/- LineTurns, LineBack: the walks of the statements' functions. -/
import Derived.Test.YtcebndkiagbddaaDoorCLine
import Derived.Test.YtcebndkiagbddaaDoorCKey
namespace Go.Proofs.YtcebndkiagbddaaDoor
open Go.RowKit
set_option linter.unusedVariables false
set_option linter.unusedSimpArgs false

abbrev rA (l : List RawS) (i : Nat) : RawS := l.getD i default
def kk4 : List (List UInt8) := [[97], [98, 95, 99], [107, 101, 121], [122, 122]]
def lnOf (r : RawS) : LnP := (kk4.getD (pk r.k 4).toNat [], Lib.repeatL [118, 61] (pk r.a 30).toNat)
def lnsL (l : List RawS) : List LnP := (List.range (min l.length 20)).map fun i => lnOf (rA l i)
theorem lnsL_len (l : List RawS) : (lnsL l).length = min l.length 20 := by unfold lnsL; simp
theorem lnsL_at (l : List RawS) : ∀ i, i < min l.length 20 → ∀ j, j < 2 → (fun a b => lnc (lnOf (rA l a)) b) i j = lnF (lnsL l) i j := by
  intro i hi j hj
  show lnc (lnOf (rA l i)) j = lnc ((lnsL l).getD i ([], [])) j
  unfold lnsL
  rw [List.getD_eq_getElem?_getD, List.getElem?_map, List.getElem?_range hi]; rfl
theorem rA_in {l : List RawS} (hl : ∀ x ∈ l, x.inn) {i : Nat} (hi : i < l.length) : (rA l i).inn := by
  have e : rA l i = l[i] := by show l.getD i default = l[i]; rw [List.getD_eq_getElem?_getD, List.getElem?_eq_getElem hi]; rfl
  rw [e]; exact hl _ (List.getElem_mem hi)
theorem cf_pickedN {n m : Int} {q : Nat} (hn : IntIn n) (hm : 0 < m) (hq : pk n m = (q : Int)) : Cf Tryd.prog 10 [] [.i n, .i m] [] (.i (q : Int)) := hq ▸ cf_picked hn.1 hn.2 hm
theorem ln_fin : ∀ q : Fin 4, ∀ c : Fin 30, lnC (kk4.getD q.val []) (Lib.repeatL [118, 61] c.val) = 0 := by decide +kernel
theorem lnOf_ok (r : RawS) : lnC (lnOf r).1 (lnOf r).2 = 0 := by
  have h1 := pk_ge r.k (m := 4) (by decide); have h2 := pk_lt r.k (m := 4) (by decide)
  have h3 := pk_ge r.a (m := 30) (by decide); have h4 := pk_lt r.a (m := 30) (by decide)
  exact ln_fin ⟨(pk r.k 4).toNat, by omega⟩ ⟨(pk r.a 30).toNat, by omega⟩
theorem lnsL_ok (l : List RawS) : ∀ x ∈ lnsL l, lnC x.1 x.2 = 0 := fun x hx => by
  obtain ⟨i, _, rfl⟩ := List.mem_map.1 hx
  exact lnOf_ok _
end Go.Proofs.YtcebndkiagbddaaDoor
