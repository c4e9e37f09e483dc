/- PacketTurns: bytes that Decode accepts are the encoding of the decoded packet: the statement holds of the program, for every input. No further condition. -/
import Derived.Test.YtnopdnclefopbaaPke
import Derived.Test.YtnopdnclefopbaaTurned
import Derived.Test.YtnopdnclefopbaaFrame
namespace Go.Proofs.Ytnopdnclefopbaa.packetTurns
open Go.ChangeShapes Go.WideShapes Go.ChangeAt Go.RowKit
open Go.ChangeMaps (open_string shut_string)
set_option linter.unusedVariables false

set_option maxRecDepth 100000 in
set_option maxHeartbeats 1600000 in
theorem walk (k a b : Int) (s : ByteArray) (at' : Int) (y : UInt8) (w : World) (h1 : IntOk k) (h2 : IntOk a) (h3 : IntOk b) (hs : s.size ≤ maxLen) (ha : IntOk at') :
    Calls Try.prog 11 #[rawV k a b s, .int .i64 at', .int .u8 (y.toNat : Int)] w fun e w' => e = .returned (.bool true) ∧ Below w.heap.size w w' := by
  have p1 := ppick_pos (n := a) (m := 65536) (by omega)
  have p2 := ppick_pos (n := b) (m := 65536) (by omega)
  have C := Lib.hid (fun w => packet_any false 0 k a b s w rfl h2 h3 hs)
  obtain ⟨src, hsrc⟩ : ∃ x, x = pkA false + (ppick a 65536).toNat := ⟨_, rfl⟩
  obtain ⟨dst, hdst⟩ : ∃ x, x = pkA (!false) + (ppick b 65536).toNat := ⟨_, rfl⟩
  obtain ⟨d, hd⟩ : ∃ d, d = s.data.toList.take 40 := ⟨_, rfl⟩
  have ls : src < 4294967296 := by rw [hsrc]; unfold pkA; split <;> omega
  have lt : dst < 4294967296 := by rw [hdst]; unfold pkA; split <;> omega
  have ld : d.length ≤ 40 := by rw [hd, List.length_take]; omega
  rw [← hsrc, ← hdst, ← hd] at C
  clear hsrc hdst hd p1 p2
  have p3 := ppick_pos (n := at') (m := ((pkEnc src dst d).length : Int)) (by rw [pkEnc_length]; omega)
  obtain ⟨i, hi⟩ := Int.eq_ofNat_of_zero_le p3.1
  have HI := Lib.hid hi
  clear p3 hi
  obtain ⟨L, hL⟩ : ∃ L, L = turned (pkEnc src dst d) i y := ⟨_, rfl⟩
  have lL : L.length = 20 + d.length := by rw [hL, turned_length, pkEnc_length]
  have HL := Lib.hid hL
  have l20 : 20 ≤ L.length := by omega
  have l60 : L.length ≤ 60 := by omega
  have LL := Lib.hid lL
  have HD := Lib.hid (fun v w hb => decode_mid v L w hb l20 (by omega))
  clear lL hL
  go_enter Try.func11, Try.ntmps11
  go_wp2_with (fail)
  have hw : Below w.heap.size w (w.alloc (Obj.cells #[.int .i64 k, .int .i64 a, .int .i64 b, .string s] 23)) := ((Below.refl w.heap.size w).alloc (by first | exact Nat.le_refl _ | (simp; done) | (simp; omega)) _)
  have hc0_0 : (w.alloc (Obj.cells #[.int .i64 k, .int .i64 a, .int .i64 b, .string s] 23)).cell? ⟨w.heap.size, 0, none⟩ = some (.int .i64 k) := cell_at (by first | rfl | simp) 0 rfl
  have hc0_1 : (w.alloc (Obj.cells #[.int .i64 k, .int .i64 a, .int .i64 b, .string s] 23)).cell? ⟨w.heap.size, 1, none⟩ = some (.int .i64 a) := cell_at (by first | rfl | simp) 1 rfl
  have hc0_2 : (w.alloc (Obj.cells #[.int .i64 k, .int .i64 a, .int .i64 b, .string s] 23)).cell? ⟨w.heap.size, 2, none⟩ = some (.int .i64 b) := cell_at (by first | rfl | simp) 2 rfl
  have hc0_3 : (w.alloc (Obj.cells #[.int .i64 k, .int .i64 a, .int .i64 b, .string s] 23)).cell? ⟨w.heap.size, 3, none⟩ = some (.string s) := cell_at (by first | rfl | simp) 3 rfl
  have hs0 : w.heap.size < (w.alloc (Obj.cells #[.int .i64 k, .int .i64 a, .int .i64 b, .string s] 23)).heap.size := by simp <;> omega
  have hz0 : ∀ o, (w.alloc (Obj.cells #[.int .i64 k, .int .i64 a, .int .i64 b, .string s] 23)).frozen? ⟨w.heap.size, o, none⟩ = false := fun o => froz_at (by first | rfl | simp) o
  generalize (w.alloc (Obj.cells #[.int .i64 k, .int .i64 a, .int .i64 b, .string s] 23)) = w0 at *
  have hB : Below w0.heap.size w0 w0 := Below.refl _ _
  go_wp2_with (go_at_call 30; (with_reducible refine (C.out _).mono ?_); rintro e w1 ⟨v, rfl, hn, hb1⟩; obtain ⟨av, mv, cv, rfl⟩ := hn.slice; replace hn := hn.1; have hW := hw.trans (hb1.mono hw.size))
  refine (encode_ok _ _ _ _ _ ls lt hn (by omega)).mono ?_
  rintro e w3 ⟨q3, rfl, ho3, hb3⟩
  replace hW := hW.trans (hb3.mono hW.size)
  have e3 := Lib.hid (pkEnc_length src dst d)
  rw [e3.out] at ho3
  obtain ⟨g3, c3, rfl⟩ := owns_pos ho3 (by omega)
  replace ho3 := owns_bytes ho3
  go_wp2_with (fail)
  refine (turned_calls _ _ _ _ i _ ho3 (by rw [e3.out]; omega) ha (fun _ => HI.out)).mono ?_
  rintro e w4 ⟨q4, rfl, ho4, hb4⟩
  replace hW := hW.trans (hb4.mono hW.size)
  replace ho3 := ho3.below hb4
  rw [← HL.out] at ho4
  obtain ⟨g4, c4, rfl⟩ := owns_pos ho4 (by omega)
  replace ho4 := owns_bytes ho4
  go_wp2_with (fail)
  refine (HD.out _ _ ho4).mono ?_
  rintro e w5 hdec
  unfold DecMid at hdec
  by_cases hg : pkGood L
  · rw [if_pos hg] at hdec
    obtain ⟨q5, rfl, ho5, hb5⟩ := hdec
    replace hW := hW.trans (hb5.mono hW.size)
    replace ho4 := ho4.below hb5
    obtain ⟨a5, m5, c5, rfl⟩ := owns_slice ho5
    replace ho5 := owns_bytes ho5
    have hE := Lib.hid (fun w v hb => encode_ok (pkSrc L) (pkDst L) v (L.drop 20) w (pkSrc_lt L) (pkDst_lt L) hb (by rw [List.length_drop]; omega))
    unfold pkGood at hg
    have G := Lib.hid hg
    clear hg
    have ls := pkSrc_lt L
    have lt := pkDst_lt L
    generalize pkSrc L = src' at *
    generalize pkDst L = dst' at *
    go_wp2_with (fail)
    refine (hE.out _ _ (ho5.below (below_alloc _ _))).mono ?_
    rintro e w6 ⟨q6, rfl, ho6, hb6⟩
    have hal := below_alloc w5 (Obj.cells #[.int .u32 (src' : Int), .int .u32 (dst' : Int), .slice a5 m5 c5] 48)
    replace hW := (hW.trans (hal.mono hW.size)).trans (hb6.mono (Nat.le_trans hW.size hal.size))
    replace ho4 := (ho4.below hal).below hb6
    rw [G.out] at ho6
    obtain ⟨g6, c6, rfl⟩ := owns_pos ho6 (by omega)
    have e1 := conv_string ho4
    have e2 := conv_string (owns_bytes ho6)
    clear ho5 hal ho3 hn ho6
    go_wp2_with (fail)
    try (rw [e1]; go_wp2_with (fail))
    try (rw [e2]; go_wp2_with (fail))
    go_ret
    exact ⟨rfl, hW⟩
  · rw [if_neg hg] at hdec
    obtain ⟨rfl, hb5⟩ := hdec
    replace hW := hW.trans (hb5.mono hW.size)
    clear hg
    go_wp2_with (fail)
    refine (samePacket_eq 0 0 (.slice none 0 0) (.slice none 0 0) [] _ (Bytes.nil _) (Bytes.nil _)).mono ?_
    rintro e w6 ⟨rfl, hb6⟩
    have hal := below_alloc w5 (Obj.cells #[.int .u32 0, .int .u32 0, .slice none 0 0] 48)
    replace hW := (hW.trans (hal.mono hW.size)).trans (hb6.mono (Nat.le_trans hW.size hal.size))
    go_wp2_with (fail)
    go_ret
    exact ⟨rfl, hW⟩

set_option maxRecDepth 100000 in
theorem lifted (os : Os) (started : os.Started) (H : Type) (enc : TypeId × Value → H) :
    ReturnsInHanded {} Try.checked os 11 .any (Rows.packetTurnsSpec.pre6 enc Try.prog Try.f11 Rows.packetTurnsRow.domain false) (Rows.packetTurnsSpec.post enc Try.prog Try.f11 false true false false) := by
  refine returnsInHanded_of_change (C := Try.checked) own started (by kernel_rfl) Try.func11
    (ChangeSpec.witness6 (enc := enc) (C := Try.checked) false ⟨#[], #[.agg #[.int .i64 0, .int .i64 0, .int .i64 0, .string ⟨#[]⟩], .int .i64 0, .int .u8 0], []⟩ 8 (by kernel_rfl) (by kernel_rfl) (by kernel_rfl) (by kernel_rfl)) ?_
  intro W base args ds gs before hval0 hW hcnd _
  have hval : ∀ (j : Nat) t v, Try.f11.params[j]? = some t → args[j]? = some v → Value.okWide Try.prog W .any base t v := hval0
  have hW' := hW
  obtain ⟨p, q, hA0, hV, rfl, hfz, hnd⟩ := hW
  have hA : DataW.TrodAll enc Try.prog W 0 (fun _ => true) true Try.f11.params.toList args.toList ds p := hA0
  rw [Try.params11] at hA hval
  obtain ⟨v0, vs0, d0, ds0, p0, q0, hargs, rfl, rfl, h0, r0⟩ := trodAll_cons hA
  obtain ⟨v1, vs1, d1, ds1, p1, q1, rfl, rfl, rfl, h1, r1⟩ := trodAll_cons r0
  obtain ⟨v2, vs2, d2, ds2, p2, q2, rfl, rfl, rfl, h2, r2⟩ := trodAll_cons r1
  obtain ⟨rfl, rfl, rfl⟩ := trodAll_nil r2
  obtain rfl : args = #[v0, v1, v2] := by cases args; simp_all
  obtain ⟨rfl, rfl⟩ := trodVars_none hV
  have k0 := h0
  have lt0 : ∀ x ∈ p0, x.block < W.heap.size := by obtain ⟨m, hm⟩ := k0; exact DataW.trod_lt m _ _ _ hm
  have k1 := h1
  have lt1 : ∀ x ∈ p1, x.block < W.heap.size := by obtain ⟨m, hm⟩ := k1; exact DataW.trod_lt m _ _ _ hm
  have k2 := h2
  have lt2 : ∀ x ∈ p2, x.block < W.heap.size := by obtain ⟨m, hm⟩ := k2; exact DataW.trod_lt m _ _ _ hm
  obtain ⟨rk0, ra0, rb0, rs0, rfl, ok0_0, ok1_0, ok2_0, len0⟩ := open_raw (hval 0 _ v0 rfl rfl) h0
  obtain ⟨n1, rfl, _, _, wn1⟩ := open_int Try.underlying3 (hval 1 _ v1 rfl rfl) h1
  have okn1 := intOk_wf wn1
  obtain ⟨n2, rfl, _, _, wn2⟩ := open_int Try.underlying5 (hval 2 _ v2 rfl rfl) h2
  obtain ⟨y2, rfl⟩ := u8_wf wn2
  clear hA0 hval0
  refine (walk rk0 ra0 rb0 rs0 n1 y2 W ok0_0 ok1_0 ok2_0 len0 okn1).mono fun e W9 ⟨he, bel⟩ => ?_
  subst he
  exact ⟨_, rfl, _, _, _, [], _, [], hW', trodAll_mk1 (shut_bool Try.underlying4 _), (trodAll_cons_mk (Below.trod laidOut (by kernel_rfl) (of_decide_eq_true (by kernel_rfl)) k0 bel lt0) (trodAll_cons_mk (Below.trod laidOut (by kernel_rfl) (of_decide_eq_true (by kernel_rfl)) k1 bel lt1) (trodAll_cons_mk (Below.trod laidOut (by kernel_rfl) (of_decide_eq_true (by kernel_rfl)) k2 bel lt2) trodAll_mk0))), rfl, bel.frame _, fun h => by cases h⟩

theorem over : Rows.packetTurnsRow.holds Try.pinned (OpenSpec.ofChange Rows.packetTurnsSpec) :=
  OpenClaim.holds_of_wide 11 Try.f11 rfl rfl rfl rfl rfl rfl rfl ⟨rfl, rfl, rfl, rfl, rfl⟩ rfl rfl rfl rfl rfl (by kernel_rfl) Try.func11 (by kernel_rfl)
    (of_decide_eq_true (by kernel_rfl)) (by unfold Func.isWrapper; first | (rw [if_pos (by decide +kernel)]; kernel_rfl) | (rw [if_neg (by decide +kernel)]; exact ⟨rfl, rfl⟩))
    (fun os started H enc _ => lifted os started H enc)

theorem proved : Rows.PacketTurnsSaid := over
#print axioms proved
end Go.Proofs.Ytnopdnclefopbaa.packetTurns
