/- The library's copies of bytes, their comparison: the shelf's contracts in our words. -/
import Derived.Test.YtnopdnclefopbaaPk
import Derived.Test.YtnopdnclefopbaaFrameb
import Derived.Test.YtnopdnclefopbaaShelf
namespace Go.Proofs.Ytnopdnclefopbaa
open Go.RowKit
set_option linter.unusedVariables false

theorem nums_at (l : List UInt8) (i : Nat) (h : i < l.length) : (l.map fun b : UInt8 => (b.toNat : Int)).getD i 0 = (l[i].toNat : Int) := by
  simp [List.getD_eq_getElem?_getD, List.getElem?_eq_getElem h]
theorem cells_nums (l : List UInt8) : (l.map fun b : UInt8 => (b.toNat : Int)).map (Value.int .u8) = cells8 l := by simp [cells8]
theorem bytesClone_calls (v : Value) (l : List UInt8) (w : World) (hb : Bytes w v l) (hl : l.length ≤ 140737488355328) : Calls Try.prog 56 #[v] w (NewBytes w l) := by
  obtain ⟨a, c, rfl, h2, h3, h4, h5⟩ := hb
  cases a with
  | none =>
    obtain rfl := h4 rfl
    obtain rfl : l = [] := List.length_eq_zero_iff.1 (by omega)
    exact (Try.bytes_Clone_nil _ _ w).mono fun e w' ⟨h, hw⟩ => ⟨_, h, by rw [hw]; exact World.ownsRow_nil _ _ _ _, by rw [hw]; exact Below.refl _ _⟩
  | some a =>
    refine (Try.bytes_Clone_at a l.length c (l.map fun b : UInt8 => (b.toNat : Int)) w (by simp) hl ?_).mono fun e w' ⟨v', h, ho, _, hb⟩ => ⟨v', h, by rw [cells_nums] at ho; exact ho, hb⟩
    intro i hi
    obtain ⟨b0, off, he, _, hc⟩ := h5 (by omega)
    injection he with he; subst he
    rw [add_at, nums_at l i hi]; exact hc i _ (List.getElem?_eq_getElem hi)
theorem bytesEqual_calls (v1 v2 : Value) (l m : List UInt8) (w : World) (h1 : Bytes w v1 l) (h2 : Bytes w v2 m) :
    Calls Try.prog 58 #[v1, v2] w fun e w' => e = .returned (.bool (l == m)) ∧ w = w' := by
  refine (Try.bytes_Equal_strs v1 v2 ⟨l.toArray⟩ ⟨m.toArray⟩ w (conv_string h1) (conv_string h2)).mono fun e w' ⟨h, hw⟩ => ⟨?_, hw.symm⟩
  rw [h, ByteArray.toList_eq, ByteArray.toList_eq]
theorem bytesEqual_is (v1 v2 : Value) (l m : List UInt8) (r : Bool) (w : World) (h1 : Bytes w v1 l) (h2 : Bytes w v2 m) (h : Hid (r = (l == m))) :
    Calls Try.prog 58 #[v1, v2] w fun e w' => e = .returned (.bool r) ∧ w = w' :=
  (bytesEqual_calls v1 v2 l m w h1 h2).mono fun _ _ ⟨h3, h4⟩ => ⟨by rw [h3, h.out], h4⟩
end Go.Proofs.Ytnopdnclefopbaa
