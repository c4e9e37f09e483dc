/- hex.Bytes: what it computes, and its contract. -/
import Derived.Test.YtnopdnclefopbaaHex
import Derived.Test.YtnopdnclefopbaaSha
namespace Go.Proofs.Ytnopdnclefopbaa
open Go.RowKit
set_option linter.unusedVariables false

/-- The value of a digit; below 0: it is none. -/
def hexv (c : UInt8) : Int := Lib.indexByte digs c
def unhex : List UInt8 → Option (List UInt8)
  | c :: d :: r => if hexv c < 0 ∨ hexv d < 0 then none else (unhex r).map (UInt8.ofNat (16 * hexv c + hexv d).toNat :: ·)
  | [] => some []
  | [_] => none
theorem hexv_bd (c : UInt8) : -1 ≤ hexv c ∧ hexv c < 16 := by
  have h : ∀ (l : List UInt8), -1 ≤ Lib.indexByte l c ∧ Lib.indexByte l c < l.length ∨ Lib.indexByte l c = -1 := by
    intro l
    induction l with
    | nil => exact .inr rfl
    | cons b l ih =>
      unfold Lib.indexByte
      by_cases h1 : (b == c) = true
      · rw [if_pos h1]; left; simp only [List.length_cons, Int.natCast_add]; omega
      · rw [if_neg h1]
        by_cases h2 : (Lib.indexByte l c == -1) = true
        · rw [if_pos h2]; exact .inr rfl
        · rw [if_neg h2]
          have h3 : Lib.indexByte l c ≠ -1 := by simpa using h2
          left; simp only [List.length_cons, Int.natCast_add]; omega
  have := h digs
  have e : digs.length = 16 := rfl
  unfold hexv; omega
theorem unhex_snoc : ∀ (l bs : List UInt8) (c d : UInt8), unhex l = some bs → unhex (l ++ [c, d]) = if hexv c < 0 ∨ hexv d < 0 then none else some (bs ++ [UInt8.ofNat (16 * hexv c + hexv d).toNat])
  | [], bs, c, d, h => by
    simp [unhex] at h; subst h
    simp only [List.nil_append, unhex, Option.map_some]
  | [a], bs, c, d, h => by simp [unhex] at h
  | a :: b :: l, bs, c, d, h => by
    unfold unhex at h
    by_cases hc : hexv a < 0 ∨ hexv b < 0
    · rw [if_pos hc] at h; cases h
    · rw [if_neg hc] at h
      cases hu : unhex l with
      | none => rw [hu] at h; cases h
      | some x =>
        rw [hu] at h; simp at h; subst h
        show unhex (a :: b :: (l ++ [c, d])) = _
        unfold unhex
        rw [if_neg hc, unhex_snoc l x c d hu]
        split <;> simp
theorem unhex_none : ∀ (l m : List UInt8), unhex l = none → l.length % 2 = 0 → unhex (l ++ m) = none
  | [], m, h, _ => by simp [unhex] at h
  | [a], m, _, h => by simp at h
  | a :: b :: l, m, h, h2 => by
    show unhex (a :: b :: (l ++ m)) = none
    unfold unhex at h ⊢
    by_cases hc : hexv a < 0 ∨ hexv b < 0
    · rw [if_pos hc]
    · rw [if_neg hc] at h ⊢
      have : unhex l = none := by simpa using h
      rw [unhex_none l m this (by simp at h2; omega)]; rfl
theorem unhex_len : ∀ (l bs : List UInt8), unhex l = some bs → l.length = 2 * bs.length
  | [], bs, h => by simp [unhex] at h; subst h; rfl
  | [a], bs, h => by simp [unhex] at h
  | a :: b :: l, bs, h => by
    unfold unhex at h
    by_cases hc : hexv a < 0 ∨ hexv b < 0
    · rw [if_pos hc] at h; cases h
    · rw [if_neg hc] at h
      cases hu : unhex l with
      | none => rw [hu] at h; cases h
      | some x => rw [hu] at h; simp at h; subst h; have := unhex_len l x hu; simp; omega

theorem index_digs (c : UInt8) (r : Int) (w : World) (H : Hid (hexv c = r)) :
    Calls Try.prog 52 #[.string ⟨#[48, 49, 50, 51, 52, 53, 54, 55, 56, 57, 97, 98, 99, 100, 101, 102]⟩, .int .u8 ((c.toNat : Nat) : Int)] w fun e w' => e = .returned (.int .i64 r) ∧ w' = w :=
  (Try.strings_IndexByte _ _ _).mono fun _ _ ⟨h1, h2⟩ => ⟨by
    rw [h1, ← H.out]
    have : (((c.toNat : Nat) : Int).toNat.toUInt8) = c := by rw [Int.toNat_natCast]; exact UInt8.ofNat_toNat
    rw [this]; rfl, h2⟩

theorem Bytes.one' (w : World) (b : UInt8) (t : TypeId) (z : Int) (h : z = ((b.toNat : Nat) : Int)) : Bytes (w.alloc (.cells #[.int .u8 z] t)) (.slice (some ⟨w.heap.size, 0, none⟩) 1 1) [b] := by
  subst h; exact Bytes.one w b t
theorem bytes_long (s : ByteArray) (w : World) (hs : 2000 < s.size) (hm : s.size ≤ maxLen) :
    Calls Try.prog 29 #[.string s] w fun e w' => e = .returned (.tuple #[.slice none 0 0, .int .i64 1]) ∧ Below w.heap.size w w' := by
  have hs' : 2000 < (s.size : Int) := by omega
  go_enter Try.func29, Try.ntmps29
  go_wp2
  go_ret2
  exact ⟨rfl, Below.refl _ _⟩
theorem bytes_odd (s : ByteArray) (w : World) (hs : s.size ≤ 2000) (ho : s.size % 2 = 1) :
    Calls Try.prog 29 #[.string s] w fun e w' => e = .returned (.tuple #[.slice none 0 0, .int .i64 3]) ∧ Below w.heap.size w w' := by
  have hs' : decide (2000 < (s.size : Int)) = false := by simp; omega
  have ho' : ((s.size : Int) % 2 != 0) = true := by rw [bne_iff_ne]; omega
  go_enter Try.func29, Try.ntmps29
  go_wp2
  go_ret2
  exact ⟨rfl, Below.refl _ _⟩
/-- What Bytes makes of a text: the bytes, or an error. -/
def BytesPost (w : World) (l : List UInt8) (e : Ending) (w' : World) : Prop :=
  match unhex l with
  | some bs => OkBytes w bs e w'
  | none => e = .returned (.tuple #[.slice none 0 0, .int .i64 3]) ∧ Below w.heap.size w w'

set_option maxHeartbeats 1600000 in
set_option maxRecDepth 100000 in
theorem bytes_even (s : ByteArray) (w : World) (hs : s.size ≤ 2000) (he : s.size % 2 = 0) :
    Calls Try.prog 29 #[.string s] w (BytesPost w s.data.toList) := by
  have hs' : decide (2000 < (s.size : Int)) = false := by simp; omega
  have he' : ((s.size : Int) % 2 != 0) = false := by rw [bne_eq_false_iff_eq]; omega
  go_enter Try.func29, Try.ntmps29
  obtain ⟨i0, hi, hz0, hz1, hz2⟩ := info_parts info8
  have hB0 : Below w.heap.size w w := Below.refl _ _
  go_wp2_with (at_make; refine wpList_make_own _ rfl _ _ 33 rfl w.heap.size 5 i0 (.int .u8 0) 1 Try.underlying33 hi hz0 hz1 _ _ _ (s.size / 2) rfl rfl (by omega) (by rw [hz2]; omega) (by unfold maxLen; omega) (Nat.le_refl _) ?_; intro w1 ho1 hg1; have hB1 := hB0.grown hg1 (Nat.le_refl _) (fun k hk => by cases hk))
  have hsl : s.data.toList.length = s.size := rfl
  have HSL := Lib.hid hsl
  clear hg1 hsl hi hz0 hz1 hz2
  go_loopw [4, 5] (fun v i wr => ∃ (j : Nat) (bs : List UInt8), j ≤ s.size ∧ j % 2 = 0 ∧ i = .int .i64 (j : Int) ∧ unhex (s.data.toList.take j) = some bs ∧ wr.ownsRow w.heap.size 5 1 v (j / 2) (cells8 bs) ∧ Below w.heap.size w wr) (fun _ i _ => s.size - (intOf i).toNat)
  case atStart => exact ⟨0, [], Nat.zero_le _, rfl, rfl, rfl, ho1, hB1⟩
  case round =>
    obtain ⟨j, bs, hj, hj2, rfl, hu, ho, hB⟩ := hrel
    have HU := Lib.hid hu
    have hjm := Lib.hid hj2
    have hem := Lib.hid he
    by_cases hlt : j < s.size
    · have hlt1 : j + 1 < s.size := by omega
      have hw1 : IntKind.i64.wrap ((j : Int) + 1) = (j : Int) + 1 := IntWalk.i64_in _ (by omega)
      have hn1 : ((j : Int) + 1).toNat = j + 1 := by omega
      have hq0 : (0 : Int) ≤ (j : Int) := by omega
      have hq1 : (j : Int) < (s.size : Int) := by omega
      have hq2 : (0 : Int) ≤ (j : Int) + 1 := by omega
      have hq3 : (j : Int) + 1 < (s.size : Int) := by omega
      obtain ⟨x, hx⟩ : ∃ x, x = hexv s[j] := ⟨_, rfl⟩
      obtain ⟨y, hy⟩ : ∃ y, y = hexv s[j + 1] := ⟨_, rfl⟩
      have hxb := hexv_bd s[j]
      have hyb := hexv_bd s[j + 1]
      rw [← hx] at hxb
      rw [← hy] at hyb
      have X := Lib.hid hx.symm
      have Y := Lib.hid hy.symm
      have hsn : Hid (unhex (s.data.toList.take (j + 2)) = if x < 0 ∨ y < 0 then none else some (bs ++ [UInt8.ofNat (16 * x + y).toNat])) := by
        have e : s.data.toList.take (j + 2) = s.data.toList.take j ++ [s[j], s[j + 1]] := by
          rw [List.take_succ_eq_append_getElem (by rw [HSL.out]; omega), List.take_succ_eq_append_getElem (by rw [HSL.out]; omega), List.append_assoc]; rfl
        show _ = _
        rw [e, unhex_snoc _ bs _ _ hu, ← hx, ← hy]
      clear hu hj2 he hx hy
      go_wp2_with (fail)
      go_quiet ((go_at_call 52; first | (with_reducible exact Calls.quiet_of_same (index_digs _ _ _ X)) | (with_reducible exact Calls.quiet_of_same (index_digs _ _ _ Y))))
      clear hw1
      have hBq := below_drewN hB nq
      have hoq := owns_below ho (below_drewN (Below.refl _ _) nq)
      generalize wr.drewN nq = w3 at *
      by_cases hx0 : x < 0
      · go_wp2_with (fail)
        go_ret2
        unfold BytesPost
        rw [← List.take_append_drop (j + 2) s.data.toList, unhex_none _ _ (by rw [hsn.out, if_pos (.inl hx0)]) (by rw [List.length_take, HSL.out]; have := hjm.out; omega)]
        exact ⟨rfl, hBq⟩
      · by_cases hy0 : y < 0
        · go_wp2_with (fail)
          go_ret2
          unfold BytesPost
          rw [← List.take_append_drop (j + 2) s.data.toList, unhex_none _ _ (by rw [hsn.out, if_pos (.inr hy0)]) (by rw [List.length_take, HSL.out]; have := hjm.out; omega)]
          exact ⟨rfl, hBq⟩
        · obtain ⟨p, rfl⟩ := Int.eq_ofNat_of_zero_le (Int.not_lt.1 hx0)
          obtain ⟨q, rfl⟩ := Int.eq_ofNat_of_zero_le (Int.not_lt.1 hy0)
          have hp : p < 16 := by omega
          have hq : q < 16 := by omega
          clear hx0 hy0
          have hz : (16 * (p : Int) + (q : Int)) = (((UInt8.ofNat (16 * p + q)).toNat : Nat) : Int) := by rw [UInt8.toNat_ofNat']; omega
          have HZ := Lib.hid hz
          clear hz
          have hbl : bs.length = j / 2 := by
            have := unhex_len _ _ HU.out; rw [List.length_take, HSL.out] at this; omega
          have HBL := Lib.hid hbl
          clear hbl
          go_wp2_with (at_builtin; refine wpList_append_bytes rfl (.tmp 40) (.tmp 46) rfl w.heap.size _ (j / 2) _ [UInt8.ofNat (16 * p + q)] rfl (hoq.alloc _) _ rfl (Bytes.one' w3 _ _ _ HZ.out) (by simp; omega) (hBq.alloc hBq.size _).size ?_; intro v2 w2 ho2 hg2; have hB2 := below_grown (hBq.alloc hBq.size _) (hoq.alloc _) hg2 (hBq.alloc hBq.size _).size; clear hg2)
          refine ⟨⟨j + 2, bs ++ [UInt8.ofNat (16 * p + q)], by omega, by have := hjm.out; omega, by go_num, ?_, ?_, hB2⟩, by simp [intOf]; omega⟩
          · rw [hsn.out, if_neg (by omega)]
            rw [show (16 * (p : Int) + (q : Int)).toNat = 16 * p + q from by omega]
          · rw [show (j + 2) / 2 = j / 2 + 1 from by omega]; exact ho2
    · have hjs : j = s.size := by omega
      subst hjs
      have hu2 : unhex s.data.toList = some bs := by
        have h := HU.out; rw [List.take_of_length_le (by rw [HSL.out]; omega)] at h; exact h
      have HU2 := Lib.hid hu2
      have hbl := Lib.hid (unhex_len _ _ hu2)
      clear hu2 hu
      go_wp2_with (fail)
      go_ret2
      unfold BytesPost
      rw [HU2.out]
      refine ⟨u4, rfl, ?_, hB⟩
      have := hbl.out
      rw [HSL.out] at this
      rw [show bs.length = s.size / 2 from by omega]; exact ho
end Go.Proofs.Ytnopdnclefopbaa
