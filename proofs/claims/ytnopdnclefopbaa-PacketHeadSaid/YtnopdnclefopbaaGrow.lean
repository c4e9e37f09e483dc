/- slices.Grow and slices.Concat at bytes: the shelf's contract of Grow laid at this translation; Concat of two. -/
import Derived.Test.YtnopdnclefopbaaTurned
import Derived.Shelf.Spec.SlicesGrow
namespace Go.Proofs.Ytnopdnclefopbaa
open Go.RowKit
set_option linter.unusedVariables false

def growRen : Go.Shelf.Ren := ⟨fun | 4 => 60 | n => n, fun | 0 => 0 | 3 => 3 | 4 => 4 | 9 => 9 | 20 => 20 | 22 => 33 | 25 => 5 | n => n, fun | n => n⟩
theorem growLays : Go.Proofs.Lays8.n4 Try.prog growRen := {
  mixed := by kernel_rfl
  f4 := ⟨ "slices.Grow[[]byte,byte]", by kernel_rfl, Try.func60.trans (congrArg some (by kernel_rfl))⟩
  t0 := Try.underlying0
  a0 := Try.isAgg0
  z0 := Try.sizeOf0
  v0 := Try.zeroValue0
  t3 := Try.underlying3
  a3 := Try.isAgg3
  z3 := Try.sizeOf3
  v3 := Try.zeroValue3
  t4 := Try.underlying4
  a4 := Try.isAgg4
  z4 := Try.sizeOf4
  v4 := Try.zeroValue4
  t9 := Try.underlying9
  a9 := Try.isAgg9
  z9 := Try.sizeOf9
  v9 := Try.zeroValue9
  t20 := Try.underlying20
  a20 := Try.isAgg20
  z20 := Try.sizeOf20
  v20 := Try.zeroValue20
  t22 := Try.underlying33
  a22 := Try.isAgg33
  z22 := Try.sizeOf33
  v22 := Try.zeroValue33 }
/-- Room for n bytes, none of them there. -/
theorem grow_nil (n : Nat) (w : World) (h0 : 0 < n) (h1 : n ≤ 1000000) :
    Calls Try.prog 60 #[.slice none 0 0, .int .i64 (n : Int)] w fun e w' => ∃ p, e = .returned p ∧ w'.ownsRow w.heap.size 5 1 p 0 [] ∧ Below w.heap.size w w' := by
  obtain ⟨i0, hi, hz0, hz1, hz2⟩ := info_parts info8
  refine (Any8.slices_Grow_grow growLays i0 (.int .u8 0) hi hz0 (by omega) none 0 0 n [] w (by omega) (by omega) (by rw [hz2]; omega) (by omega) (by simp) (fun _ => rfl) (fun a h => by cases h)).mono ?_
  rintro e w' ⟨rfl, rfl⟩
  refine ⟨_, rfl, ?_, (Below.refl _ _).drew.alloc (Nat.le_refl _) _⟩
  refine ⟨rfl, .inr ⟨w.heap.size, _, _, rfl, Nat.le_refl _, heap_alloc_new w.drew _, Nat.zero_le _, grownCap_le_maxLen _ _ _ _ (by unfold maxLen; omega), ?_, by simp⟩⟩
  have := grownCap_ge w (0 + n) 0 (growRen.t 25)
  simp only [Nat.zero_add] at this ⊢
  simp [size_zeroCells, Value.cells]
  omega
theorem grow_any (n : Nat) (w : World) (h1 : n ≤ 1000000) :
    Calls Try.prog 60 #[.slice none 0 0, .int .i64 (n : Int)] w fun e w' => ∃ p, e = .returned p ∧ w'.ownsRow w.heap.size 5 1 p 0 [] ∧ Below w.heap.size w w' := by
  by_cases h0 : 0 < n
  · exact grow_nil n w h0 h1
  · obtain rfl : n = 0 := by omega
    exact (Any8.slices_Grow_room growLays none 0 0 0 w (by omega) (by omega) (by omega) (by omega)).mono fun e w' ⟨h, hw⟩ => ⟨_, h, by rw [hw]; exact World.ownsRow_nil _ _ _ _, by rw [hw]; exact Below.refl _ _⟩
set_option maxRecDepth 100000 in
set_option maxHeartbeats 1600000 in
theorem concat_two (g : Nat) (p q : Value) (l m : List UInt8) (w : World) (h0 : w.cell? ⟨g, 0, none⟩ = some p) (h1 : w.cell? ⟨g, 1, none⟩ = some q) (hg : g < w.heap.size) (hp : Bytes w p l) (hq : Bytes w q m) (hl : l.length ≤ 1000) (hm : m.length ≤ 1000) :
    Calls Try.prog 41 #[.slice (some ⟨g, 0, none⟩) 2 2] w (NewBytes w (l ++ m)) := by
  have HP := Lib.hid hp
  have HQ := Lib.hid hq
  obtain ⟨a1, c1, rfl, -⟩ := hp
  obtain ⟨a2, c2, rfl, -⟩ := hq
  go_enter Try.func41, Try.ntmps41
  go_wp2_with (fail)
  go_loop [3, 11] (fun n i => (i = .int .i64 0 ∧ n = .int .i64 0) ∨ (i = .int .i64 1 ∧ n = .int .i64 (l.length : Int)) ∨ (i = .int .i64 2 ∧ n = .int .i64 ((l.length : Int) + (m.length : Int)))) (fun _ i => 2 - (intOf i).toNat)
  case atStart => exact .inl ⟨rfl, rfl⟩
  case round =>
    rcases hrel with ⟨rfl, rfl⟩ | ⟨rfl, rfl⟩ | ⟨rfl, rfl⟩
    · go_wp2_with (fail)
      exact ⟨.inr (.inl ⟨rfl, rfl⟩), by simp [intOf]⟩
    · go_wp2_with (fail)
      exact ⟨.inr (.inr ⟨rfl, rfl⟩), by simp [intOf]⟩
    · have G := Lib.hid (grow_any (l.length + m.length) w (by omega))
      go_wp2_with (fail)
      rw [show ((l.length : Int) + (m.length : Int)) = ((l.length + m.length : Nat) : Int) from by omega]
      refine G.out.mono ?_
      rintro e w1 ⟨v1, rfl, ho1, hb1⟩
      have hW := hb1
      clear G hb1
      go_wp2_with (fail)
      go_loopw [6, 27] (fun v i wr => Below w.heap.size w wr ∧ ((i = .int .i64 0 ∧ wr.ownsRow w.heap.size 5 1 v 0 []) ∨ (i = .int .i64 1 ∧ wr.ownsRow w.heap.size 5 1 v l.length (cells8 l)) ∨ (i = .int .i64 2 ∧ wr.ownsRow w.heap.size 5 1 v (l.length + m.length) (cells8 (l ++ m))))) (fun _ i _ => 2 - (intOf i).toNat)
      case atStart => exact ⟨hW, .inl ⟨rfl, ho1⟩⟩
      case round =>
        obtain ⟨hB, ⟨rfl, ho⟩ | ⟨rfl, ho⟩ | ⟨rfl, ho⟩⟩ := hrel
        · have c0 := keeps hB h0
          have c1 := keeps hB h1
          have hq := HP.out.below hB
          go_wp2_with (at_builtin; refine wpList_append_bytes rfl (.tmp 31) (.tmp 32) rfl w.heap.size _ 0 [] l rfl ho _ rfl hq (by omega) hB.size ?_; intro v2 w2 ho2 hg2; have hB2 := below_grown hB ho hg2 hB.size; clear hg2)
          refine ⟨⟨hB2, .inr (.inl ⟨rfl, by simpa using ho2⟩)⟩, by simp [intOf]⟩
        · have c0 := keeps hB h0
          have c1 := keeps hB h1
          have hq := HQ.out.below hB
          go_wp2_with (at_builtin; refine wpList_append_bytes rfl (.tmp 31) (.tmp 32) rfl w.heap.size _ l.length l m rfl ho _ rfl hq (by omega) hB.size ?_; intro v2 w2 ho2 hg2; have hB2 := below_grown hB ho hg2 hB.size; clear hg2)
          refine ⟨⟨hB2, .inr (.inr ⟨rfl, ho2⟩)⟩, by simp [intOf]⟩
        · go_wp2_with (fail)
          go_ret
          exact ⟨_, rfl, by rw [List.length_append]; exact ho, hB⟩
end Go.Proofs.Ytnopdnclefopbaa
