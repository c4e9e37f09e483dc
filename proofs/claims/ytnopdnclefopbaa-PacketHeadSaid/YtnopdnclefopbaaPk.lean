/- package packet: the contracts of four, address, sum. -/
import Derived.Test.YtnopdnclefopbaaBytes
import Derived.Test.YtnopdnclefopbaaPkMath
import Derived.Test.YtnopdnclefopbaaBits
namespace Go.Proofs.Ytnopdnclefopbaa
open Go.RowKit
set_option linter.unusedVariables false

/-- New bytes. -/
def NewBytes (w : World) (l : List UInt8) (e : Ending) (w' : World) : Prop :=
  ∃ p, e = .returned p ∧ w'.ownsRow w.heap.size 5 1 p l.length (cells8 l) ∧ Below w.heap.size w w'
theorem owns_lit {w : World} {B : Nat} (l : List UInt8) (cs : Array Value) (hB : B ≤ w.heap.size) (hm : l.length ≤ 1000000) (hc : cs.toList = cells8 l) :
    (w.alloc (.cells cs 5)).ownsRow B 5 1 (.slice (some ⟨w.heap.size, 0, none⟩) l.length l.length) l.length (cells8 l) := by
  rw [← hc]
  refine World.ownsRow_lit w cs _ hB (by unfold maxLen; omega) ?_
  rw [← Array.length_toList, hc, cells8_length]; omega
theorem c8_int (n : Int) (m : Nat) (h : n = ((m % 256 : Nat) : Int)) : Value.int .u8 n = c8 (UInt8.ofNat m) := by
  unfold c8; rw [UInt8.toNat_ofNat', h]
theorem four_calls (x : Nat) (w : World) (hx : x < 4294967296) : Calls Try.prog 54 #[.int .u32 (x : Int)] w (NewBytes w (be4 x)) := by
  go_enter Try.func54, Try.ntmps54
  go_wp2
  go_ret
  refine ⟨_, rfl, owns_lit (be4 x) _ (Nat.le_refl _) (by rw [be4_length]; omega) ?_, below_alloc _ _⟩
  simp only [be4, cells8, List.map_cons, List.map_nil]
  rw [c8_int ((x : Int) / 16777216) (x / 2 ^ 24) (by omega), c8_int ((x : Int) / 65536 % 256) (x / 2 ^ 16) (by omega), c8_int ((x : Int) / 256 % 256) (x / 2 ^ 8) (by omega), c8_int ((x : Int) % 256) x (by omega)]
theorem of4_bits (A B C D : Nat) (ha : A < 256) (hb : B < 256) (hc : C < 256) (hd : D < 256) :
    bits .or .u32 (bits .or .u32 (bits .or .u32 ((A : Int) * 16777216) ((B : Int) * 65536)) ((C : Int) * 256)) (D : Int) = ((A * 2 ^ 24 + B * 2 ^ 16 + C * 2 ^ 8 + D : Nat) : Int) := by
  have e1 : bits .or .u32 ((A : Int) * 16777216) ((B : Int) * 65536) = (((A * 2 ^ 8 + B) * 2 ^ 16 : Nat) : Int) := by
    have := u32_or_nat (A * 2 ^ 8 * 2 ^ 16) (B * 2 ^ 16) (by omega) (by omega)
    rw [← Nat.shiftLeft_eq (A * 2 ^ 8), ← Nat.shiftLeft_eq B, ← Nat.shiftLeft_or_distrib, Nat.shiftLeft_eq, Nat.shiftLeft_eq, Nat.shiftLeft_eq, or_shl8 A B hb] at this
    rw [show (A : Int) * 16777216 = ((A * 2 ^ 8 * 2 ^ 16 : Nat) : Int) from by omega, show (B : Int) * 65536 = ((B * 2 ^ 16 : Nat) : Int) from by omega, this]
  have e2 : bits .or .u32 (((A * 2 ^ 8 + B) * 2 ^ 16 : Nat) : Int) ((C : Int) * 256) = ((((A * 2 ^ 8 + B) * 2 ^ 8 + C) * 2 ^ 8 : Nat) : Int) := by
    have := u32_or_nat ((A * 2 ^ 8 + B) * 2 ^ 8 * 2 ^ 8) (C * 2 ^ 8) (by omega) (by omega)
    rw [← Nat.shiftLeft_eq ((A * 2 ^ 8 + B) * 2 ^ 8), ← Nat.shiftLeft_eq C, ← Nat.shiftLeft_or_distrib, Nat.shiftLeft_eq, Nat.shiftLeft_eq, Nat.shiftLeft_eq, or_shl8 _ C hc] at this
    rw [show (((A * 2 ^ 8 + B) * 2 ^ 16 : Nat) : Int) = (((A * 2 ^ 8 + B) * 2 ^ 8 * 2 ^ 8 : Nat) : Int) from by omega, show (C : Int) * 256 = ((C * 2 ^ 8 : Nat) : Int) from by omega, this]
  rw [e1, e2, u32_or_nat _ D (by omega) (by omega), or_shl8 _ D hd]
  omega
set_option maxHeartbeats 400000 in
theorem address_calls (b off n cap : Nat) (a0 a1 a2 a3 : UInt8) (w : World) (hn : 4 ≤ n) (h0 : w.cell? ⟨b, off, none⟩ = some (c8 a0)) (h1 : w.cell? ⟨b, off + 1, none⟩ = some (c8 a1)) (h2 : w.cell? ⟨b, off + 2, none⟩ = some (c8 a2)) (h3 : w.cell? ⟨b, off + 3, none⟩ = some (c8 a3)) :
    Calls Try.prog 57 #[.slice (some ⟨b, off, none⟩) n cap] w fun e w' => e = .returned (.int .u32 (of4 a0 a1 a2 a3 : Int)) ∧ Below w.heap.size w w' := by
  have b0 := a0.toNat_lt
  have b1 := a1.toNat_lt
  have b2 := a2.toNat_lt
  have b3 := a3.toNat_lt
  have E := Lib.hid (of4_bits a0.toNat a1.toNat a2.toNat a3.toNat b0 b1 b2 b3)
  go_enter Try.func57, Try.ntmps57
  go_wp2
  go_quiet (fail)
  go_wp2
  go_ret
  refine ⟨ret_int ?_, below_drewN (Below.refl _ _) _⟩
  exact E.out
set_option maxHeartbeats 800000 in
theorem sum_calls (v : Value) (l : List UInt8) (w : World) (hb : Bytes w v l) (hl : l.length ≤ 1000) (hev : l.length % 2 = 0) :
    Calls Try.prog 55 #[v] w fun e w' => e = .returned (.int .u16 (inet l : Int)) ∧ Below w.heap.size w w' := by
  obtain ⟨a, c, rfl, h2, h3, h4, h5⟩ := hb
  have H5 := Lib.hid h5
  obtain ⟨h, hh⟩ : ∃ h, l.length = 2 * h := ⟨l.length / 2, by omega⟩
  have HH := Lib.hid hh
  have hh1 : l.length ≤ 2 * h := by omega
  have hh2 : 2 * h ≤ l.length := by omega
  clear h4 h5 hh hev
  go_enter Try.func55, Try.ntmps55
  go_wp2
  go_loopw [3, 4] (fun s i wr => ∃ k : Nat, k ≤ h ∧ i = .int .i64 ((2 * k : Nat) : Int) ∧ s = .int .i64 (wsum (l.take (2 * k)) : Int) ∧ Below w.heap.size w wr) (fun _ i _ => l.length + 1 - (intOf i).toNat)
  case atStart => exact ⟨0, by omega, rfl, by simp [wsum], Below.refl _ _⟩
  case round =>
    obtain ⟨k, hk, rfl, rfl, hB⟩ := hrel
    have hw1 := wsum_le (l.take (2 * k))
    have hw2 : (l.take (2 * k)).length ≤ l.length := by rw [List.length_take]; omega
    obtain ⟨S, hS⟩ : ∃ S, S = wsum (l.take (2 * k)) := ⟨_, rfl⟩
    rw [← hS] at hw1 ⊢
    by_cases hlt : 2 * k + 1 < l.length
    · obtain ⟨b0, off, rfl, hbl, hc⟩ := H5.out (by omega)
      have c0 := hc (2 * k) _ (List.getElem?_eq_getElem (by omega))
      have c1 := hc (2 * k + 1) _ (List.getElem?_eq_getElem (by omega))
      have T := wsum_two k l _ _ (List.getElem?_eq_getElem (by omega)) (List.getElem?_eq_getElem (by omega))
      generalize l[2 * k] = x0 at c0 T
      generalize l[2 * k + 1] = x1 at c1 T
      rw [← hS] at T
      replace c0 := (hB.cell (p := ⟨b0, off + 2 * k, none⟩) hbl).trans c0
      replace c1 := (hB.cell (p := ⟨b0, off + (2 * k + 1), none⟩) hbl).trans c1
      have T := Lib.hid T
      have b0' := x0.toNat_lt
      have b1' := x1.toNat_lt
      have E := Lib.hid (or_shl8 x0.toNat x1.toNat b1')
      clear hc hS
      have B := Lib.hid (i64_or_nat (x0.toNat * 2 ^ 8) x1.toNat (by omega) (by omega))
      go_wp2_with (fail)
      go_quiet (fail)
      go_wp2_with (fail)
      refine ⟨⟨k + 1, by omega, by rw [show 2 * (k + 1) = 2 * k + 2 from rfl]; rfl, ?_, below_drewN hB _⟩, by simp [intOf]; omega⟩
      have B' := B.out
      rw [E.out] at B'
      rw [show (2 * (k + 1)) = 2 * k + 2 from by omega, T.out, show ((x0.toNat : Int) * 256) = ((x0.toNat * 2 ^ 8 : Nat) : Int) from by omega, B', IntWalk.wrap64_in _ (by omega)]
      rfl
    · go_wp2_with (fail)
      have hS2 : S = wsum l := by
        rw [hS]
        by_cases h : 2 * k = l.length
        · rw [h, List.take_length]
        · omega
      go_loopw [3] (fun s wr2 => ∃ n : Nat, n ≤ 65535000 ∧ s = .int .i64 (n : Int) ∧ fold16 n = fold16 (wsum l) ∧ wr2 = wr) (fun s _ => (intOf s).toNat)
      case atStart => exact ⟨S, by omega, rfl, by rw [hS2], rfl⟩
      case round =>
        obtain ⟨n, hn, rfl, hf, rfl⟩ := hrel
        have HF := Lib.hid hf
        clear hf hS2 hS
        by_cases hle : n ≤ 65535
        · have X := Lib.hid (u16_not n (by omega))
          go_wp2_with (fail)
          go_ret
          refine ⟨ret_int ?_, hB⟩
          rw [X.out]
          have := HF.out
          rw [fold16_lo hle] at this
          unfold inet
          rw [← this]
        · have M := Lib.hid (i64_and_mask n 16 65535 (by omega) (by decide) (by omega))
          have F := Lib.hid (fold16_hi hle)
          go_wp2_with (fail)
          have M' : bits .and .i64 (n : Int) 65535 = ((n % 65536 : Nat) : Int) := M.out
          rw [M', IntWalk.wrap64_in _ (by omega)]
          refine ⟨⟨n / 65536 + n % 65536, by omega, by rfl, by rw [← F.out]; exact HF.out, trivial⟩, by simp only [intOf]; omega⟩
end Go.Proofs.Ytnopdnclefopbaa
