/- slices.Clone of bytes, Turned: their contracts. -/
import Derived.Test.YtnopdnclefopbaaBytesN
import Derived.Test.YtnopdnclefopbaaPk
import Derived.WalkSpells
namespace Go.Proofs.Ytnopdnclefopbaa
open Go.RowKit
set_option linter.unusedVariables false

set_option maxRecDepth 100000 in
set_option maxHeartbeats 800000 in
theorem slicesClone_calls (v : Value) (l : List UInt8) (w : World) (hb : Bytes w v l) (hl : l.length ≤ 140737488355328) : Calls Try.prog 46 #[v] w (NewBytes w l) := by
  obtain ⟨a, c, rfl, h2, h3, h4, h5⟩ := id hb
  have hnil : ∀ wx : World, Sem.run Try.prog (binOp .eql 33 (.slice a l.length c) (.slice none 0 0)) wx = .ok (.bool a.isNone) wx := fun wx => Lib.run_eql_slice_nil wx 33 5 a _ _ _ _ Try.underlying33
  cases a with
  | none =>
    obtain rfl := h4 rfl
    obtain rfl : l = [] := List.length_eq_zero_iff.1 (by omega)
    clear h4 h5
    simp only [List.length_nil, Option.isNone_none] at hnil
    go_enter Try.func46, Try.ntmps46
    go_wp2_with (fail)
    go_ret
    exact ⟨_, rfl, World.ownsRow_nil _ _ _ _, Below.refl _ _⟩
  | some a =>
    clear h4 h5
    go_enter Try.func46, Try.ntmps46
    go_wp2_with (at_builtin; refine wpList_append_bytes rfl (.tmp 5) (.tmp 6) rfl w.heap.size _ 0 [] l rfl (World.ownsRow_made w #[] 0 (Nat.le_refl _) (by unfold maxLen; omega) rfl) _ rfl (hb.below (below_alloc _ _)) (by omega) (by simp) ?_; intro v1 w1 ho1 hg1; have hB1 := below_grown (below_alloc w (Obj.cells #[] 5)) (World.ownsRow_made (size := 1) w #[] 0 (Nat.le_refl _) (by unfold maxLen; omega) rfl) hg1 (by simp); rw [Nat.zero_add, List.nil_append] at ho1; clear hg1)
    go_ret
    exact ⟨v1, rfl, ho1, hB1⟩
/-- One byte is changed. -/
def turnBy (y : UInt8) : UInt8 := if y = 0 then 1 else y
def turned (l : List UInt8) (i : Nat) (y : UInt8) : List UInt8 := l.set i (l.getD i 0 ^^^ turnBy y)
theorem run_max8 (wx : World) (y : UInt8) : Sem.run Try.prog (Builtin.max_ #[5, 5] 5 #[.int .u8 (y.toNat : Int), .int .u8 1]) wx = .ok (.int .u8 ((turnBy y).toNat : Int)) wx := by
  have e : (if (y.toNat : Int) < 1 then (1 : Int) else (y.toNat : Int)) = ((turnBy y).toNat : Int) := by
    unfold turnBy
    by_cases h : y = 0
    · subst h; rfl
    · have : y.toNat ≠ 0 := fun h2 => h (UInt8.toNat_inj.1 h2)
      rw [if_neg h, if_neg (by omega)]
  rw [← e]; rfl
theorem turned_length (l : List UInt8) (i : Nat) (y : UInt8) : (turned l i y).length = l.length := by simp [turned]
set_option maxRecDepth 100000 in
set_option maxHeartbeats 800000 in
theorem turned_calls (v : Value) (l : List UInt8) (n : Int) (y : UInt8) (i : Nat) (w : World) (hb : Bytes w v l) (hl : l.length ≤ 1000) (hn : IntOk n) (hi : 0 < l.length → ppick n l.length = (i : Int)) :
    Calls Try.prog 38 #[v, .int .i64 n, .int .u8 (y.toNat : Int)] w (NewBytes w (turned l i y)) := by
  have HB := Lib.hid hb
  have hmax := fun wx => run_max8 wx y
  by_cases h0 : l = []
  · subst h0
    clear hi
    go_enter Try.func38, Try.ntmps38
    go_wp2_with (go_at_call 46; (with_reducible refine (slicesClone_calls _ _ _ HB.out (by simp)).mono ?_); rintro e w1 ⟨v1, rfl, ho1, hb1⟩; obtain ⟨a1, m1, c1, rfl⟩ := owns_slice ho1; have hm1 := (owns_bytes ho1).len; subst hm1)
    go_ret
    exact ⟨_, rfl, ho1, hb1⟩
  · have hpos : 0 < l.length := List.length_pos_iff.2 h0
    have HI := Lib.hid (hi hpos)
    have hp := ppick_pos (n := n) (m := (l.length : Int)) (by omega)
    rw [HI.out] at hp
    have hil : i < l.length := by omega
    obtain ⟨x, hx⟩ : ∃ x, x = l.getD i 0 := ⟨_, rfl⟩
    have hxl : l[i]? = some x := by rw [hx, List.getD_eq_getElem?_getD, List.getElem?_eq_getElem hil]; rfl
    have hX := Lib.hid (u8_xor_nat x.toNat (turnBy y).toNat x.toNat_lt (turnBy y).toNat_lt)
    have HX := Lib.hid hx
    have HXL := Lib.hid hxl
    clear hi hp h0 hx hxl hb
    go_enter Try.func38, Try.ntmps38
    go_wp2_with (first | (go_at_call 46; (with_reducible refine (slicesClone_calls _ _ _ HB.out (by omega)).mono ?_); rintro e w1 ⟨v1, rfl, ho1, hb1⟩; obtain ⟨g1, c1, rfl⟩ := owns_pos ho1 hpos; have hc1 : w1.cell? ⟨g1, i, none⟩ = some (.int .u8 (x.toNat : Int)) := (ho1.cellAt i (by omega)).trans (by simp [cells8, HXL.out]); have hf1 := fun o => ho1.frozenAt o) | (go_at_call 24; (with_reducible refine (picked_is n _ _ _ HI hn.1 hn.2 (by omega) (by omega)).mono ?_); rintro e w2 ⟨rfl, rfl⟩))
    go_ret
    obtain ⟨s1, _⟩ := ho1.stored i (.int .u8 (bits BinOp.xor IntKind.u8 (x.toNat : Int) ((turnBy y).toNat : Int)))
    refine ⟨_, rfl, ?_, hb1.setCell (ho1.lt g1 rfl).1 _⟩
    have e : cells8 (turned l i y) = (cells8 l).set i (.int .u8 (bits BinOp.xor IntKind.u8 (x.toNat : Int) ((turnBy y).toNat : Int))) := by
      unfold turned cells8
      rw [List.map_set, ← HX.out, hX.out]
      congr 1
    rw [turned_length, e]
    exact s1
end Go.Proofs.Ytnopdnclefopbaa
