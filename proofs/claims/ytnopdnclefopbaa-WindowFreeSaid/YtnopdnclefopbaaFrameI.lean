/- How slices of integers that come in are opened. -/
import Derived.Test.YtnopdnclefopbaaFrame
import Derived.Test.YtnopdnclefopbaaInts
namespace Go.Proofs.Ytnopdnclefopbaa
open Go.ChangeShapes Go.WideShapes Go.ChangeAt Go.RowKit
set_option linter.unusedVariables false

set_option maxRecDepth 100000 in
theorem open_introw {H : Type} {enc : TypeId × Value → H} {W : World} {r : Reach} {b0 base : Nat} {v : Value} {d : DataW H} {p : List MemPlace}
    (hv : Value.okWide Try.prog W r b0 55 v) (h : DataW.Trod enc Try.prog W base (fun _ => true) true 55 v d p) :
    ∃ (a : Option Addr) (len cap : Nat) (l : List Int), v = .slice a len cap ∧ len = l.length ∧ (Ints W (.slice a len cap) l ∧ ∀ x ∈ l, IntOk x) := by
  obtain ⟨a, len, cap, rfl⟩ := okWide_slice Try.underlying55 hv
  obtain ⟨fuel, hf⟩ := h
  rcases open_ints Try.underlying55 Try.underlying3 (by kernel_rfl) hf with ⟨hcs, _⟩ | ⟨x, l, c, zs, hcs, _, hl, hm, hz, _, hcell, hwz⟩
  · simp [Value.cells] at hcs
    obtain ⟨rfl, rfl, rfl⟩ := hcs
    exact ⟨none, 0, 0, [], rfl, rfl, Ints.nil W, by simp⟩
  · simp [Value.cells] at hcs
    obtain ⟨rfl, rfl, rfl⟩ := hcs
    have hz : zs.length = cap := by simpa using hz
    refine ⟨some x, len, cap, zs.take len, rfl, by rw [List.length_take]; omega, ⟨some x, cap, ?_, ?_, hm, (fun h => by cases h), fun hpos => ?_⟩, fun n hn => intOk_wf (hwz n (List.mem_of_mem_take hn))⟩
    · rw [List.length_take, Nat.min_eq_left (by omega)]
    · rw [List.length_take]; omega
    · have hpos' : 0 < zs.length := by rw [List.length_take] at hpos; omega
      obtain ⟨b, off, rfl, hc⟩ := ints_at hcell hpos'
      refine ⟨b, off, rfl, World.block_lt_of_cell? W _ (hc 0 hpos'), fun i u hu => ?_⟩
      have hi := (List.getElem?_eq_some_iff.1 hu).1
      have hi1 : i < len := by rw [List.length_take] at hi; omega
      have hi2 : i < zs.length := by omega
      rw [hc i hi2]
      have : zs[i]? = some u := by rw [List.getElem?_take_of_lt hi1] at hu; exact hu
      simp [this]
end Go.Proofs.Ytnopdnclefopbaa
