/- The listed table of the library: what the numerals' contract asks of it. -/
import Derived.Test.YtcebndkiagbddaaDoorCStrs
import Derived.Lib.ItoaNum
import Derived.Lib.AppendIntMem
import Derived.Lib.LaidTab
import Derived.Test.YtcebndkiagbddaaDoorRows
namespace Go.Proofs.YtcebndkiagbddaaDoor
open Go.RowKit Go.Lib
set_option linter.unusedVariables false
set_option linter.unusedSimpArgs false

theorem gPow : Tryd.prog.globalNamed "internal/strconv.uint64pow10" = some 1 := by kernel_rfl
theorem tPow : (Tryd.prog.globals[1]?).map (·.type) = some 170 := by kernel_rfl
theorem pow_same : (Lib.pow10Tab.map fun z => Value.int .u64 z) = [.int .u64 1, .int .u64 10, .int .u64 100, .int .u64 1000, .int .u64 10000, .int .u64 100000, .int .u64 1000000, .int .u64 10000000, .int .u64 100000000, .int .u64 1000000000, .int .u64 10000000000, .int .u64 100000000000, .int .u64 1000000000000, .int .u64 10000000000000, .int .u64 100000000000000, .int .u64 1000000000000000, .int .u64 10000000000000000, .int .u64 100000000000000000, .int .u64 1000000000000000000, .int .u64 10000000000000000000] := by kernel_rfl
theorem amb_eq : ambTab = [(1, Lib.pow10Tab.map fun z => Value.int .u64 z)] := by rw [pow_same]; rfl
theorem tab_amb {w : World} {Pub : Nat → Nat → Prop} (h : Amb w Pub) : Lib.TabIs Tryd.prog w "internal/strconv.uint64pow10" .u64 Lib.pow10Tab := by
  obtain ⟨_, ty, fz, hb⟩ := h (1, Lib.pow10Tab.map fun z => Value.int .u64 z) (by rw [amb_eq]; exact List.mem_singleton.2 rfl)
  unfold Lib.TabIs World.var?
  rw [gPow]
  simp only [Option.bind_some]
  rw [hb]
theorem laid_pow : (Rows.laid_internal_strconv_uint64pow10 : DataW Unit) = Lib.tabData .u64 Lib.pow10Tab := by kernel_rfl
theorem amb_laid {rest : List (String × DataW Unit)} {W : World} (h : laidMet Tryd.prog (("internal/strconv.uint64pow10", Rows.laid_internal_strconv_uint64pow10) :: rest) W) : Amb W (fun b _ => b < W.heap.size) := by
  rw [laid_pow] at h
  have k := Lib.tabIs_of_head gPow tPow Tryd.underlying170 Tryd.underlying22 (by kernel_rfl) (by kernel_rfl) h
  unfold Lib.TabIs World.var? at k
  rw [gPow] at k
  simp only [Option.bind_some] at k
  intro t ht
  rw [amb_eq, List.mem_singleton] at ht
  subst ht
  split at k
  · next cs ty fz hb =>
    cases k
    exact ⟨fun _ => (Array.getElem?_eq_some_iff.1 hb).1, ty, fz, hb⟩
  · cases k
/-- A function that returns a value without addresses, and reads the table. -/
theorem Cf.ofA {P : Program} {f : FuncId} {ags : List EV} {u : Value} (hc : callable P f = true)
    (h : ∀ (w : World) (Pub : Nat → Nat → Prop) (φ : Ghost) (vs : List Value), (∀ b i, Pub b i → b < w.heap.size) → Amb w Pub → RAs w Pub φ (avL ags) vs → Calls P f vs.toArray w fun e w' => e = .returned u ∧ Below w.heap.size w w') : Cf P f [] ags [] (.v u) := by
  refine ⟨hc, fun E φ Pub w vs e1 e2 I hR => (h w Pub φ vs I.publ I.amb hR).mono ?_⟩
  rintro e w' ⟨rfl, hb⟩
  exact ⟨u, φ, Pub, rfl, I.below e1 hb, by unfold EV.av RA RP; rfl⟩
theorem cf_Itoa {n : Int} (h0 : -9223372036854775808 ≤ n) (h1 : n ≤ 9223372036854775807) : Cf Tryd.prog 48 [] [.i n] [] (.s (Lib.itoa n)) :=
  Cf.ofA (by kernel_rfl) fun w Pub φ vs hp hA hR => by
    obtain ⟨u, rfl, k1⟩ := ra1 hR
    have e1 := ra_val k1
    subst e1
    exact (Tryd.strconv_Itoa n h0 h1 w (tab_amb hA)).mono fun e w' ⟨e2, k, os, e3⟩ => ⟨e2, by rw [e3]; exact below_grow _ _ (Nat.le_refl _) _ _⟩
theorem cf_ItoaN {u : Nat} {n : Int} (hn : n = (u : Int)) (h : u < 4294967296) : Cf Tryd.prog 48 [] [.i n] [] (.s (Lib.decDigits u)) := by
  subst hn
  have := cf_Itoa (n := (u : Int)) (by omega) (by omega)
  have e : Lib.itoa (u : Int) = Lib.decDigits u := by unfold Lib.itoa; rw [if_neg (by omega), Int.toNat_natCast]
  rw [e] at this; exact this
end Go.Proofs.YtcebndkiagbddaaDoor
