/- hex.Text: its walk (the builder's contracts are the shelf's). -/
import Derived.Test.YtcdoobkaobiacaaBuilder
import Derived.Test.YtcdoobkaobiacaaHexF
namespace Go.Proofs.Ytcdoobkaobiacaa
open Go.RowKit
set_option linter.unusedVariables false
set_option linter.unusedSimpArgs false

theorem dig_byte (n : Nat) (h : n < 16) (hb : n < (ByteArray.mk #[48, 49, 50, 51, 52, 53, 54, 55, 56, 57, 97, 98, 99, 100, 101, 102]).size) : (ByteArray.mk #[48, 49, 50, 51, 52, 53, 54, 55, 56, 57, 97, 98, 99, 100, 101, 102])[n] = hexd n := by
  unfold hexd digs
  rw [List.getD_eq_getElem?_getD, List.getElem?_eq_getElem (by simpa using h)]
  rfl
theorem fresh_builder (w : World) : Lib.IsBuilder 82 5 w.heap.size w.heap.size (Lib.byteCells []) (w.alloc (.cells #[.pointer none, .slice none 0 0] 82)) :=
  .inl ⟨Nat.le_refl _, .slice none 0 0, heap_alloc_new w _, World.ownsRow_nil _ _ _ _, by simp [Value.ownBlock]⟩
theorem byteCells_snoc (l : List UInt8) (b : UInt8) : Lib.byteCells l ++ [Value.int .u8 ((b.toNat : Nat) : Int)] = Lib.byteCells (l ++ [b]) := by simp [Lib.byteCells]

end Go.Proofs.Ytcdoobkaobiacaa
