/- The contracts of the statements' own helpers: picked, Nets, Net. -/
import Derived.Test.YtcebndkiagbddaaDoorRows
import Derived.Test.YtcebndkiagbddaaDoorFB
import Derived.Test.YtcebndkiagbddaaDoorMath
namespace Go.Proofs.YtcebndkiagbddaaDoor
open Go.RowKit
set_option linter.unusedVariables false
set_option linter.unusedSimpArgs false

def netA (k : Nat) : Nat := [0, 167772160, 167837696, 167838208, 167838211, 167903232, 167772160, 3232235520, 3232235776, 2147483648, 167838336].getD k 0
def netB (k : Nat) : Nat := [0, 8, 16, 24, 32, 16, 9, 16, 24, 1, 25].getD k 0
abbrev netCells : Array Value := #[.int .u32 0, .int .i64 0, .int .u32 167772160, .int .i64 8, .int .u32 167837696, .int .i64 16, .int .u32 167838208, .int .i64 24, .int .u32 167838211, .int .i64 32, .int .u32 167903232, .int .i64 16, .int .u32 167772160, .int .i64 9, .int .u32 3232235520, .int .i64 16, .int .u32 3232235776, .int .i64 24, .int .u32 2147483648, .int .i64 1, .int .u32 167838336, .int .i64 25]
theorem netCells_at (k : Nat) (h : k < 11) : netCells[2 * k]? = some (.int .u32 (netA k : Int)) ∧ netCells[2 * k + 1]? = some (.int .i64 (netB k : Int)) := by
  match k, h with
  | 0, _ | 1, _ | 2, _ | 3, _ | 4, _ | 5, _ | 6, _ | 7, _ | 8, _ | 9, _ | 10, _ => exact ⟨rfl, rfl⟩
theorem netA_lt (k : Nat) : netA k < 4294967296 := by
  unfold netA
  by_cases h : k < 11
  · match k, h with
    | 0, _ | 1, _ | 2, _ | 3, _ | 4, _ | 5, _ | 6, _ | 7, _ | 8, _ | 9, _ | 10, _ => decide
  · rw [List.getD_eq_getElem?_getD, List.getElem?_eq_none (by simp; omega)]; decide
theorem net_valid (k : Nat) (h : k < 11) : pvalid (netA k) (netB k : Int) := by
  match k, h with
  | 0, _ | 1, _ | 2, _ | 3, _ | 4, _ | 5, _ | 6, _ | 7, _ | 8, _ | 9, _ | 10, _ => decide +kernel

set_option maxHeartbeats 800000 in
theorem nets_any (w : World) :
    Calls Tryd.prog 46 #[] w fun e w' => e = .returned (.slice (some ⟨w.heap.size, 0, none⟩) 11 11) ∧ w.alloc (.cells netCells 51) = w' := by
  have f0 : bits .or .u32 167772160 0 = 167772160 := by kernel_rfl
  have f1 : bits .or .u32 167772160 65536 = 167837696 := by kernel_rfl
  have f2 : bits .or .u32 167837696 0 = 167837696 := by kernel_rfl
  have f3 : bits .or .u32 167837696 512 = 167838208 := by kernel_rfl
  have f4 : bits .or .u32 167838208 0 = 167838208 := by kernel_rfl
  have f5 : bits .or .u32 167838208 3 = 167838211 := by kernel_rfl
  have f6 : bits .or .u32 167772160 131072 = 167903232 := by kernel_rfl
  have f7 : bits .or .u32 167903232 0 = 167903232 := by kernel_rfl
  have f8 : bits .or .u32 3221225472 11010048 = 3232235520 := by kernel_rfl
  have f9 : bits .or .u32 3232235520 0 = 3232235520 := by kernel_rfl
  have f10 : bits .or .u32 3232235520 256 = 3232235776 := by kernel_rfl
  have f11 : bits .or .u32 3232235776 0 = 3232235776 := by kernel_rfl
  have f12 : bits .or .u32 2147483648 0 = 2147483648 := by kernel_rfl
  have f13 : bits .or .u32 167838208 128 = 167838336 := by kernel_rfl
  go_enter Tryd.func46, Tryd.ntmps46
  go_wp2
  go_ret
  exact ⟨rfl, rfl⟩
end Go.Proofs.YtcebndkiagbddaaDoor
