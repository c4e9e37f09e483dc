/- sha.Pad: what it makes, and its contract. -/
import Derived.Test.YtnopdnclefopbaaBytes
namespace Go.Proofs.Ytnopdnclefopbaa
open Go.RowKit
set_option linter.unusedVariables false

def padZ (n : Nat) : Nat := (119 - n % 64) % 64
def be8 (n : Nat) : List UInt8 := (List.range 8).map fun j => UInt8.ofNat (n / 2 ^ (8 * (7 - j)))
def shaPad (l : List UInt8) : List UInt8 := l ++ 128 :: (List.replicate (padZ l.length) 0 ++ be8 (8 * l.length))

def lenOf : Value → Nat
  | .slice _ n _ => n
  | _ => 0
/-- New bytes, and no error. -/
def OkBytes (w : World) (l : List UInt8) (e : Ending) (w' : World) : Prop :=
  ∃ p, e = .returned (.tuple #[p, .int .i64 0]) ∧ w'.ownsRow w.heap.size 5 1 p l.length (cells8 l) ∧ Below w.heap.size w w'
theorem owns_pos {w : World} {base n size : Nat} {e : TypeId} {v : Value} {xs : List Value} (h : w.ownsRow base e size v n xs) (hn : 0 < n) : ∃ g cap, v = .slice (some ⟨g, 0, none⟩) n cap := by
  rcases h.2 with ⟨_, h2⟩ | ⟨g, cap, _, hv, _⟩
  · omega
  · exact ⟨g, cap, hv⟩
theorem lenOf_owns {w : World} {base n size : Nat} {e : TypeId} {v : Value} {xs : List Value} (h : w.ownsRow base e size v n xs) : lenOf v = n := by
  rcases h.2 with ⟨rfl, h2⟩ | ⟨g, cap, _, rfl, _⟩
  · rw [h2]; rfl
  · rfl
theorem Bytes.one (w : World) (b : UInt8) (t : TypeId) : Bytes (w.alloc (.cells #[c8 b] t)) (.slice (some ⟨w.heap.size, 0, none⟩) 1 1) [b] :=
  ⟨_, 1, rfl, Nat.le_refl _, by unfold maxLen; omega, (fun h => by cases h), fun _ => ⟨w.heap.size, 0, rfl, by simp, fun i u hu => by
    cases i with
    | zero => simp at hu; subst hu; simp
    | succ i => simp at hu⟩⟩
theorem padZ_lt (n : Nat) : padZ n < 64 := Nat.mod_lt _ (by omega)
theorem padZ_test (n k : Nat) (hk : k ≤ padZ n) : ((n + 1 + k) % 64 = 56 ↔ k = padZ n) := by unfold padZ at *; omega
theorem be8_length (n : Nat) : (be8 n).length = 8 := by simp [be8]
theorem be8_take (n j : Nat) (hj : j < 8) : (be8 n).take (j + 1) = (be8 n).take j ++ [UInt8.ofNat (n / 2 ^ (8 * (7 - j)))] := by
  rw [List.take_succ_eq_append_getElem (by rw [be8_length]; exact hj)]
  simp [be8]

set_option maxRecDepth 100000 in
set_option maxHeartbeats 1600000 in
theorem pad_calls (v : Value) (l : List UInt8) (w : World) (hb : Bytes w v l) (hl : l.length ≤ 1000) :
    Calls Try.prog 23 #[v] w (OkBytes w (shaPad l)) := by
  obtain ⟨a, c, rfl, h2, h3, h4, h5⟩ := id hb
  have hB0 : Below w.heap.size w w := Below.refl _ _
  have hl' : decide (1000 < (l.length : Int)) = false := by simp; omega
  clear h4 h5
  go_enter Try.func23, Try.ntmps23
  go_wp2_with (at_builtin; first | (refine wpList_append_bytes rfl (.const (.slice none 0 0)) (.tmp 10) rfl w.heap.size (.slice none 0 0) 0 [] l rfl (World.ownsRow_nil _ _ _ _) _ rfl hb (by omega) (Nat.le_refl _) ?_; intro v1 w1 ho1 hg1; have hB1 := below_grown_nil hB0 hg1 (Nat.le_refl _); rw [Nat.zero_add, List.nil_append] at ho1; clear hg1) | (refine wpList_append_bytes rfl (.tmp 11) (.tmp 12) rfl w.heap.size v1 l.length l [128] rfl (ho1.alloc _) _ rfl (Bytes.one w1 128 _) (by simp; omega) (hB1.alloc hB1.size _).size ?_; intro v2 w2 ho2 hg2; have hB2 := below_grown (hB1.alloc hB1.size _) (ho1.alloc _) hg2 (hB1.alloc hB1.size _).size; clear hg2))
  clear hb
  have hp := padZ_lt l.length
  go_loopw [4] (fun v wr => ∃ k, k ≤ padZ l.length ∧ wr.ownsRow w.heap.size 5 1 v (l.length + 1 + k) (cells8 (l ++ 128 :: List.replicate k 0)) ∧ Below w.heap.size w wr) (fun v _ => 2000 - lenOf v)
  case atStart => exact ⟨0, Nat.zero_le _, ho2, hB2⟩
  case round =>
    obtain ⟨k, hk, ho, hB⟩ := hrel
    obtain ⟨g, cap, rfl⟩ := owns_pos ho (by omega)
    have ht := padZ_test l.length k hk
    obtain ⟨n, hn⟩ : ∃ n, n = l.length + 1 + k := ⟨_, rfl⟩
    rw [← hn] at ho ht ⊢
    have hn1 : n ≤ 1064 := by omega
    by_cases hc : k = padZ l.length
    · have h56 : ((n : Int) % 64 != 56) = false := by have := ht.2 hc; rw [bne_eq_false_iff_eq]; omega
      subst hc
      have H := Lib.hid hn
      have hn0 : 0 < n := by omega
      clear hn ht ho1 ho2 hB1 hB2
      go_wp2_with (fail)
      obtain ⟨pre, hpre⟩ : ∃ pre, pre = l ++ 128 :: List.replicate (padZ l.length) 0 := ⟨_, rfl⟩
      rw [← hpre] at ho
      have HP := Lib.hid hpre
      have hpl := Lib.hid (show pre.length = n by rw [hpre, H.out]; simp; omega)
      clear hpre
      obtain ⟨wo, hwo⟩ : ∃ wo : World, wo = wr := ⟨_, rfl⟩
      rw [← hwo] at ho hB
      rw [← hwo]
      clear hwo
      go_loopw [4, 6] (fun v i wr => ∃ j : Nat, j ≤ 8 ∧ i = .int .i64 (7 - (j : Int)) ∧ wr.ownsRow w.heap.size 5 1 v (n + j) (cells8 (pre ++ (be8 (8 * l.length)).take j)) ∧ Below w.heap.size w wr) (fun _ i _ => (intOf i + 1).toNat)
      case atStart => exact ⟨0, by omega, rfl, by simpa using ho, hB⟩
      case round =>
        obtain ⟨j, hj, rfl, ho, hB⟩ := hrel
        obtain ⟨g, cap, rfl⟩ := owns_pos ho (by omega)
        by_cases hlt : j < 8
        · have hj2 : 0 ≤ 7 - (j : Int) := by omega
          go_wp2_with (at_builtin; refine wpList_append_bytes rfl (.tmp 28) (.tmp 34) rfl w.heap.size _ (n + j) _ [UInt8.ofNat (8 * l.length / 2 ^ (8 * (7 - j)))] rfl (ho.alloc _) _ rfl (Bytes.one _ _ _) (by simp; omega) (hB.alloc hB.size _).size ?_; intro v2 w2 ho2 hg2; have hB2 := below_grown (hB.alloc hB.size _) (ho.alloc _) hg2 (hB.alloc hB.size _).size; clear hg2)
          refine ⟨⟨j + 1, by omega, by rw [show (7 - (j : Int) - 1) = 7 - ((j + 1 : Nat) : Int) from by omega], ?_, hB2⟩, by simp [intOf]; omega⟩
          rw [be8_take _ j hlt, ← List.append_assoc, show n + (j + 1) = n + j + 1 from by omega]
          exact ho2
        · obtain rfl : j = 8 := by omega
          go_wp2_with (at_builtin; refine wpList_append_bytes rfl (.const (.slice none 0 0)) (.tmp 36) rfl w.heap.size (.slice none 0 0) 0 [] _ rfl (World.ownsRow_nil _ _ _ _) _ rfl (owns_bytes ho) (by rw [List.take_of_length_le (by rw [be8_length]; omega), List.length_append, be8_length, hpl.out]; omega) hB.size ?_; intro v2 w2 ho2 hg2; have hB2 := below_grown_nil hB hg2 hB.size; clear hg2)
          go_ret2
          refine ⟨v2, rfl, ?_, hB2⟩
          have e : shaPad l = pre ++ List.take 8 (be8 (8 * l.length)) := by
            rw [List.take_of_length_le (by rw [be8_length]; omega), HP.out]; simp [shaPad]
          rw [e]
          simpa using ho2
    · have h56 : ((n : Int) % 64 != 56) = true := by have := mt ht.1 hc; rw [bne_iff_ne]; omega
      have H := Lib.hid hn
      clear hn ht
      go_wp2_with (at_builtin; refine wpList_append_bytes rfl (.tmp 18) (.tmp 19) rfl w.heap.size _ n _ [0] rfl (ho.alloc _) _ rfl (Bytes.one wr 0 _) (by simp; omega) (hB.alloc hB.size _).size ?_; intro v2 w2 ho2 hg2; have hB2 := below_grown (hB.alloc hB.size _) (ho.alloc _) hg2 (hB.alloc hB.size _).size; clear hg2)
      go_roundw
      case rel =>
        refine ⟨k + 1, by omega, ?_, hB2⟩
        rw [show l.length + 1 + (k + 1) = n + 1 from by have := H.out; omega, show l ++ 128 :: List.replicate (k + 1) 0 = l ++ 128 :: List.replicate k 0 ++ [0] from by simp [List.replicate_succ']]
        exact ho2
      case measure => rw [lenOf_owns ho2]; simp [lenOf]; omega
end Go.Proofs.Ytnopdnclefopbaa
