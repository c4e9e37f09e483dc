/- hex.Text: its walk (the builder's contracts are the shelf's). -/
import Derived.Test.YtcebndkiagbddaaDoorBuilder
import Derived.Test.YtcebndkiagbddaaDoorHexF
namespace Go.Proofs.YtcebndkiagbddaaDoor
open Go.RowKit
set_option linter.unusedVariables false
set_option linter.unusedSimpArgs false

theorem dig_byte (n : Nat) (h : n < 16) (hb : n < (ByteArray.mk #[48, 49, 50, 51, 52, 53, 54, 55, 56, 57, 97, 98, 99, 100, 101, 102]).size) : (ByteArray.mk #[48, 49, 50, 51, 52, 53, 54, 55, 56, 57, 97, 98, 99, 100, 101, 102])[n] = hexd n := by
  unfold hexd digs
  rw [List.getD_eq_getElem?_getD, List.getElem?_eq_getElem (by simpa using h)]
  rfl
theorem fresh_builder (w : World) : Lib.IsBuilder 93 5 w.heap.size w.heap.size (Lib.byteCells []) (w.alloc (.cells #[.pointer none, .slice none 0 0] 93)) :=
  .inl ⟨Nat.le_refl _, .slice none 0 0, heap_alloc_new w _, World.ownsRow_nil _ _ _ _, by simp [Value.ownBlock]⟩
theorem byteCells_snoc (l : List UInt8) (b : UInt8) : Lib.byteCells l ++ [Value.int .u8 ((b.toNat : Nat) : Int)] = Lib.byteCells (l ++ [b]) := by simp [Lib.byteCells]

set_option maxHeartbeats 1000000 in
set_option maxRecDepth 100000 in
theorem text_any (v : Value) (l : List UInt8) (w : World) (hb : Bytes w v l) (hl : l.length ≤ 1000000) :
    Calls Tryd.prog 59 #[v] w fun e w' => e = .returned (.string ⟨(hexText l).toArray⟩) ∧ Below w.heap.size w w' := by
  obtain ⟨a, c, rfl, h2, h3, h4, h5⟩ := hb
  have H5 := Lib.hid h5
  clear h4 h5
  go_enter Tryd.func59, Tryd.ntmps59
  go_wp2_with (fail)
  go_loopw [5, 8] (fun d i wr => ∃ k : Nat, k ≤ l.length ∧ i = .int .i64 k ∧ Lib.IsBuilder 93 5 w.heap.size w.heap.size (Lib.byteCells (hexText (l.take k))) wr ∧ Below w.heap.size w wr) (fun _ i _ => l.length - (intOf i).toNat)
  case atStart => exact ⟨0, Nat.zero_le _, rfl, fresh_builder w, (Below.refl _ _).alloc (Nat.le_refl _) _⟩
  case round =>
    obtain ⟨k, hk, rfl, hI, hB⟩ := hrel
    by_cases hlt : k < l.length
    · obtain ⟨b0, off, rfl, hbl, hc⟩ := H5.out (by omega)
      have hck : wr.cell? ⟨b0, off + k, none⟩ = some (.int .u8 ((l[k].toNat : Nat) : Int)) := by
        rw [hB.cell (p := ⟨b0, off + k, none⟩) hbl]; exact hc k _ (List.getElem?_eq_getElem hlt)
      have hd1 : l[k].toNat / 16 < 16 := by have := l[k].toNat_lt; omega
      have hd2 : l[k].toNat % 16 < 16 := by omega
      obtain ⟨d, hdd⟩ : ∃ d, d = l[k].toNat := ⟨_, rfl⟩
      rw [← hdd] at hck hd1 hd2
      have hd3 : d < 256 := by rw [hdd]; exact l[k].toNat_lt
      have HD := Lib.hid hdd
      clear hdd hc
      have hL : (Lib.byteCells (hexText (l.take k))).length + 2 ≤ 140737488355328 := by
        rw [Lib.byteCells_length, hexText_length]; have := List.length_take_le k l; omega
      go_wp2_with (fail)
      (with_reducible refine (writeByte_any w.heap.size w.heap.size _ _ _ hI (by omega) hB.size).mono ?_); rintro e w1 ⟨rfl, hI1, hb1⟩
      rw [dig_byte (d / 16) hd1] at hI1
      rw [byteCells_snoc] at hI1
      have hB1 := hB.trans hb1
      have hJ1 : Lib.IsBuilder 93 5 w.heap.size w.heap.size _ w1 := Or.inr hI1
      go_wp2_with (fail)
      (with_reducible refine (writeByte_any w.heap.size w.heap.size _ _ _ hJ1 (by rw [Lib.byteCells_length] at hL ⊢; rw [List.length_append, List.length_singleton]; omega) hB1.size).mono ?_); rintro e w2 ⟨rfl, hI2, hb2⟩
      rw [dig_byte (d % 16) hd2, byteCells_snoc] at hI2
      have hB2 := hB1.trans hb2
      go_wp2_with (fail)
      refine ⟨⟨k + 1, by omega, by go_num, .inr ?_, hB2⟩, by simp [intOf]; omega⟩
      rw [List.take_succ_eq_append_getElem hlt, hexText_snoc, ← HD.out]; exact hI2
    · obtain rfl : k = l.length := by omega
      rw [List.take_length] at hI
      go_wp2_with (go_at_call 34; (with_reducible refine (Tryd.Builder_String_any w.heap.size w.heap.size _ _ hI hB.size).mono ?_); rintro e w2 ⟨rfl, hb2⟩)
      go_ret
      exact ⟨rfl, hB.trans hb2⟩
end Go.Proofs.YtcebndkiagbddaaDoor
