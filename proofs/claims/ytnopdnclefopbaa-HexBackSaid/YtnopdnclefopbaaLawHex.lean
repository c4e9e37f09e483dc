/- Decoding the encoding of bytes returns the bytes, and a string that Bytes accepts is the encoding of the decoded bytes: the statements HexBack and HexTurns hold of the program, for every input. No further condition. -/
import Derived.Test.YtnopdnclefopbaaRows
import Derived.Test.YtnopdnclefopbaaFrameb
import Derived.Test.YtnopdnclefopbaaHexb
import Derived.Test.YtnopdnclefopbaaKitc
namespace Go.Proofs.Ytnopdnclefopbaa
open Go.RowKit
set_option linter.unusedVariables false

theorem hexv_hexd (n : Nat) (h : n < 16) : hexv (hexd n) = n := by
  have : ∀ m : Fin 16, hexv (hexd m.val) = (m.val : Int) := by decide
  exact this ⟨n, h⟩
theorem unhex_hexText : ∀ l : List UInt8, unhex (hexText l) = some l
  | [] => rfl
  | b :: l => by
    have h1 : b.toNat / 16 < 16 := by have := b.toNat_lt; omega
    have h2 : b.toNat % 16 < 16 := by omega
    show unhex (hexd (b.toNat / 16) :: hexd (b.toNat % 16) :: hexText l) = _
    unfold unhex
    rw [hexv_hexd _ h1, hexv_hexd _ h2, if_neg (by omega), unhex_hexText l, Option.map_some]
    congr 1
    rw [show (16 * ((b.toNat / 16 : Nat) : Int) + ((b.toNat % 16 : Nat) : Int)).toNat = b.toNat from by omega, UInt8.ofNat_toNat]
theorem index_at : ∀ (l : List UInt8) (c : UInt8), ¬ Lib.indexByte l c < 0 → l.getD (Lib.indexByte l c).toNat 0 = c
  | [], c, h => absurd (show (-1 : Int) < 0 by decide) h
  | b :: l, c, h => by
    unfold Lib.indexByte at h ⊢
    by_cases h1 : (b == c) = true
    · rw [if_pos h1]; simpa using h1
    · rw [if_neg h1] at h ⊢
      by_cases h2 : (Lib.indexByte l c == -1) = true
      · rw [if_pos h2] at h; exact absurd (by decide) h
      · rw [if_neg h2] at h ⊢
        have h3 : Lib.indexByte l c ≠ -1 := by simpa using h2
        by_cases h4 : Lib.indexByte l c < 0
        · exfalso
          have : ∀ (l : List UInt8), Lib.indexByte l c < 0 → Lib.indexByte l c = -1 := by
            intro l
            induction l with
            | nil => intro _; rfl
            | cons b l ih =>
              unfold Lib.indexByte
              by_cases h1 : (b == c) = true
              · rw [if_pos h1]; intro h; omega
              · rw [if_neg h1]
                by_cases h2 : (Lib.indexByte l c == -1) = true
                · rw [if_pos h2]; intro _; rfl
                · rw [if_neg h2]; intro h
                  have h3 : Lib.indexByte l c ≠ -1 := by simpa using h2
                  by_cases h5 : Lib.indexByte l c < 0
                  · exact absurd (ih h5) h3
                  · omega
          exact h3 (this l h4)
        · have := index_at l c h4
          rw [show (Lib.indexByte l c + 1).toNat = (Lib.indexByte l c).toNat + 1 from by omega]
          simpa using this
theorem hexd_hexv (c : UInt8) (h : ¬ hexv c < 0) : hexd (hexv c).toNat = c := index_at digs c h
theorem hexText_unhex : ∀ (l bs : List UInt8), unhex l = some bs → hexText bs = l
  | [], bs, h => by simp [unhex] at h; subst h; rfl
  | [a], bs, h => by simp [unhex] at h
  | a :: b :: l, bs, h => by
    unfold unhex at h
    by_cases hc : hexv a < 0 ∨ hexv b < 0
    · rw [if_pos hc] at h; cases h
    · rw [if_neg hc] at h
      cases hu : unhex l with
      | none => rw [hu] at h; cases h
      | some x =>
        rw [hu] at h; simp at h; subst h
        have ha := hexv_bd a
        have hb := hexv_bd b
        have e : (UInt8.ofNat (16 * hexv a + hexv b).toNat).toNat = (16 * hexv a + hexv b).toNat := by rw [UInt8.toNat_ofNat']; omega
        show hexd ((UInt8.ofNat (16 * hexv a + hexv b).toNat).toNat / 16) :: hexd ((UInt8.ofNat (16 * hexv a + hexv b).toNat).toNat % 16) :: hexText x = _
        rw [e, hexText_unhex l x hu, show (16 * hexv a + hexv b).toNat / 16 = (hexv a).toNat from by omega, show (16 * hexv a + hexv b).toNat % 16 = (hexv b).toNat from by omega, hexd_hexv a (fun h => hc (.inl h)), hexd_hexv b (fun h => hc (.inr h))]

theorem bytes_ok (s : ByteArray) (bs : List UInt8) (w : World) (hs : s.size ≤ 2000) (H : Hid (unhex s.data.toList = some bs)) : Calls Try.prog 29 #[.string s] w (OkBytes w bs) := by
  have he : s.size % 2 = 0 := by have := unhex_len _ _ H.out; have e : s.data.toList.length = s.size := rfl; omega
  refine (bytes_even s w hs he).mono fun e w' h => ?_
  unfold BytesPost at h; rw [H.out] at h; exact h
/-- An error, and no bytes. -/
def BadBytes (w : World) (e : Ending) (w' : World) : Prop := ∃ r : Int, (r = 1 ∨ r = 3) ∧ e = .returned (.tuple #[.slice none 0 0, .int .i64 r]) ∧ Below w.heap.size w w'
theorem bytes_bad (s : ByteArray) (w : World) (hm : s.size ≤ maxLen) (H : 2000 < s.size ∨ unhex s.data.toList = none) : Calls Try.prog 29 #[.string s] w (BadBytes w) := by
  by_cases hs : 2000 < s.size
  · exact (bytes_long s w hs hm).mono fun e w' ⟨h1, h2⟩ => ⟨1, .inl rfl, h1, h2⟩
  · have hu := H.resolve_left hs
    by_cases he : s.size % 2 = 0
    · refine (bytes_even s w (by omega) he).mono fun e w' h => ?_
      unfold BytesPost at h; rw [hu] at h; exact ⟨3, .inr rfl, h.1, h.2⟩
    · exact (bytes_odd s w (by omega) (by omega)).mono fun e w' ⟨h1, h2⟩ => ⟨3, .inr rfl, h1, h2⟩

namespace hexBack
open Go.ChangeShapes Go.WideShapes Go.ChangeAt
set_option maxRecDepth 100000 in
set_option maxHeartbeats 1600000 in
theorem walk (a : Option Addr) (len cap : Nat) (z : List UInt8) (w : World) (hz : len = z.length) (hb : ∀ n, n ≤ len → Bytes w (.slice a n cap) (z.take n)) :
    Calls Try.prog 7 #[.slice a len cap] w fun e w' => e = .returned (.bool true) ∧ Below w.heap.size w w' := by
  obtain ⟨n, hn⟩ : ∃ n : Nat, n = min len 900 := ⟨_, rfl⟩
  have hbn := hb n (by omega)
  obtain ⟨l, hl⟩ : ∃ l, l = z.take n := ⟨_, rfl⟩
  rw [← hl] at hbn
  have hll : l.length = n := by rw [hl, List.length_take]; omega
  have hcap : n ≤ cap := by obtain ⟨a', c', e1, e2, e3, e4, e5⟩ := hbn; injection e1 with e1 e6 e7; omega
  have hn9 : n ≤ 900 := by omega
  have hn2 := Lib.hid (show min (len : Int) 900 = (n : Int) by omega)
  have HU := Lib.hid (show unhex (ByteArray.mk (hexText l).toArray).data.toList = some l from unhex_hexText l)
  have hsz : (ByteArray.mk (hexText l).toArray).size = 2 * n := by rw [← hll, ← hexText_length]; rfl
  have Hll := Lib.hid hll
  clear hb hl hz hn hll
  obtain ⟨t, ht⟩ : ∃ t, t = ByteArray.mk (hexText l).toArray := ⟨_, rfl⟩
  have HT := Lib.hid ht.symm
  rw [← ht] at hsz HU
  clear ht
  go_enter Try.func7, Try.ntmps7
  go_wp2_with (first | (go_at_call 28; (with_reducible refine (text_any _ l _ hbn (by rw [Hll.out]; omega)).mono ?_); rintro e w1 ⟨rfl, hb1⟩; rw [HT.out]) | (with_reducible refine wpList_min rfl (.tmp 8) 900 rfl (len : Int) (n : Int) rfl hn2.out ?_))
  (with_reducible refine (bytes_ok t l _ (by omega) HU).mono ?_)
  rintro e w2 ⟨p, rfl, ho, hb2⟩
  have hbn2 := (hbn.below hb1).below hb2
  have hbp := owns_bytes ho
  have hcp : Sem.run Try.prog (convert 33 9 p) w2 = .ok (.string ⟨l.toArray⟩) w2 := conv_string hbp
  have hcb : Sem.run Try.prog (convert 33 9 (.slice a n cap)) w2 = .ok (.string ⟨l.toArray⟩) w2 := conv_string hbn2
  go_wp2_with (fail)
  go_ret
  exact ⟨by first | rfl | simp, hb1.trans (hb2.mono hb1.size)⟩

open Go.ChangeMaps (open_string shut_string)
set_option maxRecDepth 100000 in
theorem lifted (os : Os) (started : os.Started) (H : Type) (enc : TypeId × Value → H) :
    ReturnsInHanded {} Try.checked os 7 .any (Rows.hexBackSpec.pre6 enc Try.prog Try.f7 Rows.hexBackRow.domain false) (Rows.hexBackSpec.post enc Try.prog Try.f7 false true false false) := by
  refine returnsInHanded_of_change (C := Try.checked) own started (by kernel_rfl) Try.func7
    (ChangeSpec.witness6 (enc := enc) (C := Try.checked) false ⟨#[], #[.slice none 0 0], []⟩ 8 (by kernel_rfl) (by kernel_rfl) (by kernel_rfl) (by kernel_rfl)) ?_
  intro W base args ds gs before hval0 hW hcnd _
  have hval : ∀ (j : Nat) t v, Try.f7.params[j]? = some t → args[j]? = some v → Value.okWide Try.prog W .any base t v := hval0
  have hW' := hW
  obtain ⟨p, q, hA0, hV, rfl, hfz, hnd⟩ := hW
  have hA : DataW.TrodAll enc Try.prog W 0 (fun _ => true) true Try.f7.params.toList args.toList ds p := hA0
  rw [Try.params7] at hA hval
  obtain ⟨v0, vs0, d0, ds0, p0, q0, hargs, rfl, rfl, h0, r0⟩ := trodAll_cons hA
  obtain ⟨rfl, rfl, rfl⟩ := trodAll_nil r0
  obtain rfl : args = #[v0] := by cases args; simp_all
  obtain ⟨rfl, rfl⟩ := trodVars_none hV
  have k0 := h0
  have lt0 : ∀ x ∈ p0, x.block < W.heap.size := by obtain ⟨m, hm⟩ := k0; exact DataW.trod_lt m _ _ _ hm
  obtain ⟨a0, len0, cap0, z0, rfl, w0l, w0⟩ := open_bytes (hval 0 _ v0 rfl rfl) h0
  clear hA0 hval0
  refine (walk a0 len0 cap0 z0 W w0l w0).mono fun e W9 ⟨he, bel⟩ => ?_
  subst he
  exact ⟨_, rfl, _, _, _, [], _, [], hW', trodAll_mk1 (shut_bool Try.underlying4 _), (trodAll_cons_mk (Below.trod laidOut (by kernel_rfl) (of_decide_eq_true (by kernel_rfl)) k0 bel lt0) trodAll_mk0), rfl, bel.frame _, fun h => by cases h⟩

theorem over : Rows.hexBackRow.holds Try.pinned (OpenSpec.ofChange Rows.hexBackSpec) :=
  OpenClaim.holds_of_wide 7 Try.f7 rfl rfl rfl rfl rfl rfl rfl ⟨rfl, rfl, rfl, rfl, rfl⟩ rfl rfl rfl rfl rfl (by kernel_rfl) Try.func7 (by kernel_rfl)
    (of_decide_eq_true (by kernel_rfl)) (by unfold Func.isWrapper; first | (rw [if_pos (by decide +kernel)]; kernel_rfl) | (rw [if_neg (by decide +kernel)]; exact ⟨rfl, rfl⟩))
    (fun os started H enc _ => lifted os started H enc)

theorem proved : Rows.HexBackSaid := over
#print axioms proved
end hexBack

namespace hexTurns
open Go.ChangeShapes Go.WideShapes Go.ChangeAt
theorem unhex_0aff : unhex [48, 97, 102, 102] = some [10, 255] := by decide
set_option maxRecDepth 100000 in
set_option maxHeartbeats 1600000 in
theorem walk (s : ByteArray) (w : World) (hm : s.size ≤ maxLen) :
    Calls Try.prog 8 #[.string s] w fun e w' => e = .returned (.bool true) ∧ Below w.heap.size w w' := by
  have HK := Lib.hid unhex_0aff
  by_cases h : 2000 < s.size ∨ unhex s.data.toList = none
  · skip
    go_enter Try.func8, Try.ntmps8
    go_wp2_with (fail)
    (with_reducible refine (bytes_bad s _ hm h).mono ?_)
    rintro e w1 ⟨r, hr, rfl, hb1⟩
    go_wp2_with (fail)
    (with_reducible refine (bytes_ok _ [10, 255] _ (by decide) HK).mono ?_)
    rintro e w2 ⟨p, rfl, ho, hb2⟩
    have hcp : Sem.run Try.prog (convert 33 9 p) w2 = .ok (.string ⟨#[10, 255]⟩) w2 := conv_string (owns_bytes ho)
    rcases hr with rfl | rfl
    · go_wp2_with (fail)
      go_ret
      exact ⟨rfl, hb1.trans (hb2.mono hb1.size)⟩
    · go_wp2_with (fail)
      go_ret
      exact ⟨rfl, hb1.trans (hb2.mono hb1.size)⟩
  · cases hu : unhex s.data.toList with
    | none => exact absurd (.inr hu) h
    | some bs =>
      have hs : s.size ≤ 2000 := by
        rcases Nat.lt_or_ge 2000 s.size with h1 | h1
        · exact absurd (.inl h1) h
        · exact h1
      have HU := Lib.hid hu
      have hl := Lib.hid (unhex_len _ _ hu)
      have ht : ByteArray.mk (hexText bs).toArray = s := by rw [hexText_unhex _ _ hu]
      have HT := Lib.hid ht
      have hsl := Lib.hid (show s.data.toList.length = s.size from rfl)
      clear h hu ht
      go_enter Try.func8, Try.ntmps8
      go_wp2_with (fail)
      (with_reducible refine (bytes_ok s bs _ hs HU).mono ?_)
      rintro e w1 ⟨b, rfl, hob, hb1⟩
      go_wp2_with (fail)
      (with_reducible refine (bytes_ok _ [10, 255] _ (by decide) HK).mono ?_)
      rintro e w2 ⟨p, rfl, ho, hb2⟩
      have hcp : Sem.run Try.prog (convert 33 9 p) w2 = .ok (.string ⟨#[10, 255]⟩) w2 := conv_string (owns_bytes ho)
      have hbb := owns_bytes (owns_below hob hb2)
      go_wp2_with (go_at_call 28; (with_reducible refine (text_any _ bs _ hbb (by have := hl.out; rw [hsl.out] at this; omega)).mono ?_); rintro e w3 ⟨rfl, hb3⟩; rw [HT.out])
      go_ret
      exact ⟨by first | rfl | simp, (hb1.trans (hb2.mono hb1.size)).trans (hb3.mono (Nat.le_trans hb1.size hb2.size))⟩

open Go.ChangeMaps (open_string shut_string)
set_option maxRecDepth 100000 in
theorem lifted (os : Os) (started : os.Started) (H : Type) (enc : TypeId × Value → H) :
    ReturnsInHanded {} Try.checked os 8 .any (Rows.hexTurnsSpec.pre6 enc Try.prog Try.f8 Rows.hexTurnsRow.domain false) (Rows.hexTurnsSpec.post enc Try.prog Try.f8 false true false false) := by
  refine returnsInHanded_of_change (C := Try.checked) own started (by kernel_rfl) Try.func8
    (ChangeSpec.witness6 (enc := enc) (C := Try.checked) false ⟨#[], #[.string ⟨#[]⟩], []⟩ 8 (by kernel_rfl) (by kernel_rfl) (by kernel_rfl) (by kernel_rfl)) ?_
  intro W base args ds gs before hval0 hW hcnd _
  have hval : ∀ (j : Nat) t v, Try.f8.params[j]? = some t → args[j]? = some v → Value.okWide Try.prog W .any base t v := hval0
  have hW' := hW
  obtain ⟨p, q, hA0, hV, rfl, hfz, hnd⟩ := hW
  have hA : DataW.TrodAll enc Try.prog W 0 (fun _ => true) true Try.f8.params.toList args.toList ds p := hA0
  rw [Try.params8] at hA hval
  obtain ⟨v0, vs0, d0, ds0, p0, q0, hargs, rfl, rfl, h0, r0⟩ := trodAll_cons hA
  obtain ⟨rfl, rfl, rfl⟩ := trodAll_nil r0
  obtain rfl : args = #[v0] := by cases args; simp_all
  obtain ⟨rfl, rfl⟩ := trodVars_none hV
  have k0 := h0
  have lt0 : ∀ x ∈ p0, x.block < W.heap.size := by obtain ⟨m, hm⟩ := k0; exact DataW.trod_lt m _ _ _ hm
  obtain ⟨s0, rfl, _, _, len0⟩ := open_string Try.underlying9 (hval 0 _ v0 rfl rfl) h0
  clear hA0 hval0
  refine (walk s0 W len0).mono fun e W9 ⟨he, bel⟩ => ?_
  subst he
  exact ⟨_, rfl, _, _, _, [], _, [], hW', trodAll_mk1 (shut_bool Try.underlying4 _), (trodAll_cons_mk (Below.trod laidOut (by kernel_rfl) (of_decide_eq_true (by kernel_rfl)) k0 bel lt0) trodAll_mk0), rfl, bel.frame _, fun h => by cases h⟩

theorem over : Rows.hexTurnsRow.holds Try.pinned (OpenSpec.ofChange Rows.hexTurnsSpec) :=
  OpenClaim.holds_of_wide 8 Try.f8 rfl rfl rfl rfl rfl rfl rfl ⟨rfl, rfl, rfl, rfl, rfl⟩ rfl rfl rfl rfl rfl (by kernel_rfl) Try.func8 (by kernel_rfl)
    (of_decide_eq_true (by kernel_rfl)) (by unfold Func.isWrapper; first | (rw [if_pos (by decide +kernel)]; kernel_rfl) | (rw [if_neg (by decide +kernel)]; exact ⟨rfl, rfl⟩))
    (fun os started H enc _ => lifted os started H enc)

theorem proved : Rows.HexTurnsSaid := over
#print axioms proved
end hexTurns
end Go.Proofs.Ytnopdnclefopbaa
