/- PacketHead: an encoded packet with one changed byte in its header is rejected: the statement holds of the program, for every input. No further condition. -/
import Derived.Test.YtnopdnclefopbaaPkHead
import Derived.Test.YtnopdnclefopbaaFrame
namespace Go.Proofs.Ytnopdnclefopbaa.packetHead
open Go.ChangeShapes Go.WideShapes Go.ChangeAt Go.RowKit
open Go.ChangeMaps (open_string shut_string)
set_option linter.unusedVariables false

/-- A slice of two. -/
def Pair (B : Nat) (w : World) (v p q : Value) : Prop :=
  ∃ b, v = .slice (some ⟨b, 0, none⟩) 2 2 ∧ B ≤ b ∧ b < w.heap.size ∧ w.cell? ⟨b, 0, none⟩ = some p ∧ w.cell? ⟨b, 1, none⟩ = some q
theorem Pair.below {B : Nat} {w w' : World} {v p q : Value} (h : Pair B w v p q) (hb : Below w.heap.size w w') : Pair B w' v p q := by
  obtain ⟨b, h1, h2, h3, h4, h5⟩ := h
  exact ⟨b, h1, h2, Nat.lt_of_lt_of_le h3 hb.size, keeps hb h4, keeps hb h5⟩
theorem Pair.made {B : Nat} {w : World} {p q : Value} {t : TypeId} (h : B ≤ w.heap.size) : Pair B (w.alloc (.cells #[p, q] t)) (.slice (some ⟨w.heap.size, 0, none⟩) 2 2) p q :=
  ⟨w.heap.size, rfl, h, by simp, cell_at rfl 0 rfl, cell_at rfl 1 rfl⟩
theorem Pair.slice {B : Nat} {w : World} {v p q : Value} (h : Pair B w v p q) : ∃ b, v = .slice (some ⟨b, 0, none⟩) 2 2 := let ⟨b, e, _⟩ := h; ⟨b, e⟩
theorem concat_pair {B : Nat} {w : World} {v p q : Value} {l m : List UInt8} (h : Pair B w v p q) (hp : Bytes w p l) (hq : Bytes w q m) (hl : l.length ≤ 1000) (hm : m.length ≤ 1000) :
    Calls Try.prog 41 #[v] w (NewBytes w (l ++ m)) := by
  obtain ⟨b, rfl, _, h3, h4, h5⟩ := h
  exact concat_two b p q l m w h4 h5 h3 hp hq hl hm
theorem decode_bad3 (v : Value) (l : List UInt8) (w : World) (hb : Bytes w v l) (h20 : 20 ≤ l.length) (hl : l.length ≤ 220) (hg : ¬ pkGood l) :
    Calls Try.prog 32 #[v] w fun e w' => e = .returned (.tuple #[.agg #[.int .u32 0, .int .u32 0, .slice none 0 0], .int .i64 3]) ∧ Below w.heap.size w w' := by
  refine (decode_mid v l w hb h20 hl).mono fun e w' h => ?_
  unfold DecMid at h
  rw [if_neg hg] at h
  exact h

set_option maxRecDepth 100000 in
set_option maxHeartbeats 1600000 in
theorem walk (k a b : Int) (s : ByteArray) (at' : Int) (y : UInt8) (w : World) (h1 : IntOk k) (h2 : IntOk a) (h3 : IntOk b) (hs : s.size ≤ maxLen) (ha : IntOk at') :
    Calls Try.prog 14 #[rawV k a b s, .int .i64 at', .int .u8 (y.toNat : Int)] w fun e w' => e = .returned (.bool true) ∧ Below w.heap.size w w' := by
  have p1 := ppick_pos (n := a) (m := 65536) (by omega)
  have p2 := ppick_pos (n := b) (m := 65536) (by omega)
  have C := Lib.hid (fun w => packet_any false 0 k a b s w rfl h2 h3 hs)
  obtain ⟨src, hsrc⟩ : ∃ x, x = pkA false + (ppick a 65536).toNat := ⟨_, rfl⟩
  obtain ⟨dst, hdst⟩ : ∃ x, x = pkA (!false) + (ppick b 65536).toNat := ⟨_, rfl⟩
  obtain ⟨d, hd⟩ : ∃ d, d = s.data.toList.take 40 := ⟨_, rfl⟩
  have ls : src < 4294967296 := by rw [hsrc]; unfold pkA; split <;> omega
  have lt : dst < 4294967296 := by rw [hdst]; unfold pkA; split <;> omega
  have ld : d.length ≤ 40 := by rw [hd, List.length_take]; omega
  rw [← hsrc, ← hdst, ← hd] at C
  clear hsrc hdst hd p1 p2
  have p3 := ppick_pos (n := at') (m := (20 : Int)) (by omega)
  obtain ⟨i, hi⟩ := Int.eq_ofNat_of_zero_le p3.1
  have hi20 : i < 20 := by omega
  have HI := Lib.hid hi
  clear p3 hi
  obtain ⟨H, hH⟩ : ∃ H, H = pkHead (20 + d.length) src dst := ⟨_, rfl⟩
  have lH : H.length = 20 := by rw [hH, pkHead_length]
  have hbad := head_bad src dst i d y ls lt hi20
  rw [← hH] at hbad
  have hE : pkEnc src dst d = H ++ d := by unfold pkEnc; rw [hH]
  have HH := Lib.hid (And.intro lH hE)
  have HBAD := Lib.hid (fun v w hb => decode_bad3 v (turned H i y ++ d) w hb (by rw [List.length_append, turned_length]; omega) (by rw [List.length_append, turned_length]; omega) hbad)
  clear hH lH hbad hE
  go_enter Try.func14, Try.ntmps14
  go_wp2_with (fail)
  have hw : Below w.heap.size w (w.alloc (Obj.cells #[.int .i64 k, .int .i64 a, .int .i64 b, .string s] 23)) := ((Below.refl w.heap.size w).alloc (by first | exact Nat.le_refl _ | (simp; done) | (simp; omega)) _)
  have hc0_0 : (w.alloc (Obj.cells #[.int .i64 k, .int .i64 a, .int .i64 b, .string s] 23)).cell? ⟨w.heap.size, 0, none⟩ = some (.int .i64 k) := cell_at (by first | rfl | simp) 0 rfl
  have hc0_1 : (w.alloc (Obj.cells #[.int .i64 k, .int .i64 a, .int .i64 b, .string s] 23)).cell? ⟨w.heap.size, 1, none⟩ = some (.int .i64 a) := cell_at (by first | rfl | simp) 1 rfl
  have hc0_2 : (w.alloc (Obj.cells #[.int .i64 k, .int .i64 a, .int .i64 b, .string s] 23)).cell? ⟨w.heap.size, 2, none⟩ = some (.int .i64 b) := cell_at (by first | rfl | simp) 2 rfl
  have hc0_3 : (w.alloc (Obj.cells #[.int .i64 k, .int .i64 a, .int .i64 b, .string s] 23)).cell? ⟨w.heap.size, 3, none⟩ = some (.string s) := cell_at (by first | rfl | simp) 3 rfl
  have hs0 : w.heap.size < (w.alloc (Obj.cells #[.int .i64 k, .int .i64 a, .int .i64 b, .string s] 23)).heap.size := by simp <;> omega
  have hz0 : ∀ o, (w.alloc (Obj.cells #[.int .i64 k, .int .i64 a, .int .i64 b, .string s] 23)).frozen? ⟨w.heap.size, o, none⟩ = false := fun o => froz_at (by first | rfl | simp) o
  generalize (w.alloc (Obj.cells #[.int .i64 k, .int .i64 a, .int .i64 b, .string s] 23)) = w00 at *
  have hB : Below w00.heap.size w00 w00 := Below.refl _ _
  go_wp2_with (go_at_call 30; (with_reducible refine (C.out _).mono ?_); rintro e w1 ⟨v, rfl, hn, hb1⟩; obtain ⟨av, mv, cv, rfl⟩ := hn.slice; replace hn := hn.1; have hW := hw.trans (hb1.mono hw.size))
  refine (encode_ok _ _ _ _ _ ls lt hn (by omega)).mono ?_
  rintro e w0 ⟨q3, rfl, ho3, hb3⟩
  replace hW := hW.trans (hb3.mono hW.size)
  have e3 := Lib.hid (pkEnc_length src dst d)
  rw [e3.out] at ho3
  obtain ⟨g3, c3, rfl⟩ := owns_pos ho3 (by omega)
  replace ho3 := owns_bytes ho3
  rw [HH.out.2] at ho3
  have hcap : 20 + d.length ≤ c3 := by
    obtain ⟨a', c', e, h2, _⟩ := ho3
    injection e with e1 e2 e3
    rw [← e2, ← e3] at h2; exact h2
  have i20 : (20 : Int) ≤ (20 + d.length : Nat) := by omega
  have i20c : (20 : Int) ≤ c3 := by omega
  go_wp2_with (fail)
  have hB : Below w0.heap.size w0 w0 := Below.refl _ _
  obtain ⟨a20, ha20⟩ : ∃ a20, a20 = (if c3 = 20 then some (⟨g3, 0, none⟩ : Addr) else some ⟨g3, 0 + 20, none⟩) := ⟨_, rfl⟩
  have HA := Lib.hid ha20
  have hsl : ∀ wx : World, Sem.run Try.prog (Instr.slice 33 (.slice (some ⟨g3, 0, none⟩) (20 + d.length) c3) (some (.int .i64 20)) none none) wx = .ok (.slice a20 d.length (c3 - 20)) wx := fun wx => by
    have h := slice_from8 wx (some ⟨g3, 0, none⟩) (20 + d.length) c3 20 (by omega)
    rw [sliced20, ← HA.out, Nat.add_sub_cancel_left] at h
    exact h
  have hbt := Lib.hid (fun (w1 : World) (h : Below w0.heap.size w0 w1) => (show Bytes w1 (.slice a20 d.length (c3 - 20)) d from by
    have h := (ho3.below h).sliced (k := 20) (by omega)
    have e : List.drop 20 (H ++ d) = d := by rw [← HH.out.1]; exact List.drop_left
    rw [sliced20, ← HA.out, Nat.add_sub_cancel_left, e] at h
    exact h))
  have hbh := Lib.hid (fun (w1 : World) (h : Below w0.heap.size w0 w1) => (show Bytes w1 (.slice (some ⟨g3, 0, none⟩) 20 c3) H from by
    have h := (ho3.below h).cut (m := 20) (by omega)
    have e : List.take 20 (H ++ d) = H := by rw [← HH.out.1]; exact List.take_left
    rw [e] at h
    exact h))
  have hT := Lib.hid (fun w1 h => turned_calls (.slice (some ⟨g3, 0, none⟩) 20 c3) H at' y i w1 h (by rw [HH.out.1]; omega) ha (fun _ => by rw [HH.out.1]; exact HI.out))
  have j0 : ¬ c3 = 0 := by omega
  have lT := Lib.hid (show (turned H i y).length ≤ 1000 by rw [turned_length, HH.out.1]; omega)
  clear ha20
  refine wp_region_float (m := 16) (S := fun wS => Below (w0.heap.size) w0 wS) (by kernel_rfl) (by kernel_rfl) (by kernel_rfl) (fun L ac w1 => ∃ v9 v10 v26 v27 v28 v29 v30 v31 v32 v33 v34 v35 v36 v37 v38, ac = { tmps := #[rawV k a b s, .int .i64 at', .int .u8 (y.toNat : Int), .pointer (some ⟨w.heap.size, 0, none⟩), undef, undef, .bool false, .slice (some ⟨g3, 0, none⟩) (20 + d.length) c3, .int .i64 0, v9, v10, undef, undef, .tuple #[.slice (some ⟨g3, 0, none⟩) (20 + d.length) c3, .int .i64 0], .agg #[.int .i64 k, .int .i64 a, .int .i64 b, .string s], .agg #[.int .u32 (src : Int), .int .u32 (dst : Int), .slice av mv cv], .tuple #[.slice (some ⟨g3, 0, none⟩) (20 + d.length) c3, .int .i64 0], .slice (some ⟨g3, 0, none⟩) (20 + d.length) c3, .int .i64 0, .int .i64 0, .bool false, .bool false, .slice (some ⟨g3, 0, none⟩) (20 + d.length) c3, .int .i64 (20 + (d.length : Int)), .bool (decide (20 + (d.length : Int) < 20)), .bool (decide (20 + (d.length : Int) < 20)), v26, v27, v28, v29, v30, v31, v32, v33, v34, v35, v36, v37, v38, undef, undef, undef, undef, undef, undef, undef, undef, undef, undef, undef, undef], defers := [] } ∧ Below w0.heap.size w0 w1 ∧ (L 13 = true → L 14 = false → Fresh w0.heap.size w1 v9 [.int .u32 0, .int .u32 0, .slice none 0 0]) ∧ (L 15 = true → v10 = .int .i64 3) ∧ (L 10 = true → v26 = .tuple #[.agg #[.int .u32 0, .int .u32 0, .slice none 0 0], .int .i64 3]) ∧ (L 0 = true → v27 = .slice (some ⟨g3, 0, none⟩) (20 + d.length) c3) ∧ (L 1 = true → v28 = .slice (some ⟨g3, 0, none⟩) 20 c3) ∧ (L 2 = true → v29 = .int .i64 at') ∧ (L 3 = true → v30 = .int .u8 (y.toNat : Int)) ∧ (L 4 = true → L 14 = false → w1.ownsRow w0.heap.size 5 1 v31 (turned H i y).length (cells8 (turned H i y))) ∧ (L 5 = true → v32 = .slice (some ⟨g3, 0, none⟩) (20 + d.length) c3) ∧ (L 6 = true → v33 = .slice a20 d.length (c3 - 20)) ∧ (L 7 = true → L 14 = false → Pair w0.heap.size w1 v34 v31 (.slice a20 d.length (c3 - 20))) ∧ (L 8 = true → L 14 = false → w1.ownsRow w0.heap.size 5 1 v35 (turned H i y ++ d).length (cells8 (turned H i y ++ d))) ∧ (L 9 = true → v36 = .tuple #[.agg #[.int .u32 0, .int .u32 0, .slice none 0 0], .int .i64 3]) ∧ (L 11 = true → v37 = .agg #[.int .u32 0, .int .u32 0, .slice none 0 0]) ∧ (L 12 = true → v38 = .int .i64 3) ∧ (L 14 = true → Fresh w0.heap.size w1 v9 [.int .u32 0, .int .u32 0, .slice none 0 0]) ∧ (L 14 = true → L 0 = true) ∧ (L 14 = true → L 1 = true) ∧ (L 14 = true → L 2 = true) ∧ (L 14 = true → L 3 = true) ∧ (L 14 = true → L 4 = true) ∧ (L 14 = true → L 5 = true) ∧ (L 14 = true → L 6 = true) ∧ (L 14 = true → L 7 = true) ∧ (L 14 = true → L 8 = true) ∧ (L 14 = true → L 9 = true) ∧ (L 14 = true → L 10 = true) ∧ (L 14 = true → L 11 = true) ∧ (L 14 = true → L 13 = true) ∧ (L 7 = true → L 4 = true)) ?_ ?_ ?_
  · intro L hL
    refine ⟨undef, undef, undef, undef, undef, undef, undef, undef, undef, undef, undef, undef, undef, undef, undef, rfl, hB.drew, ?_⟩
    simp [hL]
  · intro L ac w1 i o K hi ho hLi hd ⟨v9, v10, v26, v27, v28, v29, v30, v31, v32, v33, v34, v35, v36, v37, v38, ha, hb, r9, r10, r26, r27, r28, r29, r30, r31, r32, r33, r34, r35, r36, r37, r38, qS, kb0, kb1, kb2, kb3, kb4, kb5, kb6, kb7, kb8, kb9, kb10, kb11, kb13, k34_31⟩ hK
    subst ha
    have hc := (bcell hb).1
    by_cases hie : i = 0
    · subst hie
      obtain rfl := Option.some.inj ho
      simp [Region.binds] at hd
      try (have hdH := Lib.hid hd; clear hd)
      have hLs : L 14 = false := by
        cases hx : L 14 with
        | false => rfl
        | true => have hy := kb0 hx; rw [hLi] at hy; cases hy
      go_simp
      exact hK _ _ ⟨v9, v10, v26, _, v28, v29, v30, v31, v32, v33, v34, v35, v36, v37, v38, rfl, hb, (r9), (r10), (r26), (fun _ => rfl), (r28), (r29), (r30), (r31), (r32), (r33), (r34), (r35), (r36), (r37), (r38), (qS), (fun _ => rfl), (kb1), (kb2), (kb3), (kb4), (kb5), (kb6), (kb7), (kb8), (kb9), (kb10), (kb11), (kb13), (k34_31)⟩
    by_cases hie : i = 1
    · subst hie
      obtain rfl := Option.some.inj ho
      simp [Region.binds] at hd
      try (have hdH := Lib.hid hd; clear hd)
      have hLs : L 14 = false := by
        cases hx : L 14 with
        | false => rfl
        | true => have hy := kb1 hx; rw [hLi] at hy; cases hy
      obtain rfl := r27 (by first | exact hdH.out | exact hdH.out.1 | exact hdH.out.2 | exact hdH.out.2.1 | exact hdH.out.2.2 | exact hdH.out.2.2.1 | exact hdH.out.2.2.2 | exact hdH.out.2.2.2.1 | exact hdH.out.2.2.2.2 | exact hdH.out.2.2.2.2.1 | exact hdH.out.2.2.2.2.2 | exact hdH.out.2.2.2.2.2.1 | exact hdH.out.2.2.2.2.2.2 | exact hdH.out.2.2.2.2.2.2.1 | exact hdH.out.2.2.2.2.2.2.2 | exact hdH.out.2.2.2.2.2.2.2.1 | exact hdH.out.2.2.2.2.2.2.2.2 | exact hdH.out.2.2.2.2.2.2.2.2.1 | exact hdH.out.2.2.2.2.2.2.2.2.2 | exact hdH.out.2.2.2.2.2.2.2.2.2.1 | exact hdH.out.2.2.2.2.2.2.2.2.2.2 | exact hdH.out.2.2.2.2.2.2.2.2.2.2.1 | exact hdH.out.2.2.2.2.2.2.2.2.2.2.2 | exact hdH.out.2.2.2.2.2.2.2.2.2.2.2.1 | exact hdH.out.2.2.2.2.2.2.2.2.2.2.2.2 | exact hdH.out.2.2.2.2.2.2.2.2.2.2.2.2.1 | exact hdH.out.2.2.2.2.2.2.2.2.2.2.2.2.2 | exact hdH.out.2.2.2.2.2.2.2.2.2.2.2.2.2.1 | exact hdH.out.2.2.2.2.2.2.2.2.2.2.2.2.2.2 | exact hdH.out.2.2.2.2.2.2.2.2.2.2.2.2.2.2.1 | exact hdH.out.2.2.2.2.2.2.2.2.2.2.2.2.2.2.2 | exact hdH.out.2.2.2.2.2.2.2.2.2.2.2.2.2.2.2.1 | exact hdH.out.2.2.2.2.2.2.2.2.2.2.2.2.2.2.2.2)
      go_simp
      exact hK _ _ ⟨v9, v10, v26, _, _, v29, v30, v31, v32, v33, v34, v35, v36, v37, v38, rfl, hb, (r9), (r10), (r26), (fun _ => rfl), (fun _ => rfl), (r29), (r30), (r31), (r32), (r33), (r34), (r35), (r36), (r37), (r38), (qS), (kb0), (fun _ => rfl), (kb2), (kb3), (kb4), (kb5), (kb6), (kb7), (kb8), (kb9), (kb10), (kb11), (kb13), (k34_31)⟩
    by_cases hie : i = 2
    · subst hie
      obtain rfl := Option.some.inj ho
      simp [Region.binds] at hd
      try (have hdH := Lib.hid hd; clear hd)
      have hLs : L 14 = false := by
        cases hx : L 14 with
        | false => rfl
        | true => have hy := kb2 hx; rw [hLi] at hy; cases hy
      go_simp
      exact hK _ _ ⟨v9, v10, v26, v27, v28, _, v30, v31, v32, v33, v34, v35, v36, v37, v38, rfl, hb, (r9), (r10), (r26), (r27), (r28), (fun _ => rfl), (r30), (r31), (r32), (r33), (r34), (r35), (r36), (r37), (r38), (qS), (kb0), (kb1), (fun _ => rfl), (kb3), (kb4), (kb5), (kb6), (kb7), (kb8), (kb9), (kb10), (kb11), (kb13), (k34_31)⟩
    by_cases hie : i = 3
    · subst hie
      obtain rfl := Option.some.inj ho
      simp [Region.binds] at hd
      try (have hdH := Lib.hid hd; clear hd)
      have hLs : L 14 = false := by
        cases hx : L 14 with
        | false => rfl
        | true => have hy := kb3 hx; rw [hLi] at hy; cases hy
      go_simp
      exact hK _ _ ⟨v9, v10, v26, v27, v28, v29, _, v31, v32, v33, v34, v35, v36, v37, v38, rfl, hb, (r9), (r10), (r26), (r27), (r28), (r29), (fun _ => rfl), (r31), (r32), (r33), (r34), (r35), (r36), (r37), (r38), (qS), (kb0), (kb1), (kb2), (fun _ => rfl), (kb4), (kb5), (kb6), (kb7), (kb8), (kb9), (kb10), (kb11), (kb13), (k34_31)⟩
    by_cases hie : i = 4
    · subst hie
      obtain rfl := Option.some.inj ho
      simp [Region.binds] at hd
      try (have hdH := Lib.hid hd; clear hd)
      have hLs : L 14 = false := by
        cases hx : L 14 with
        | false => rfl
        | true => have hy := kb4 hx; rw [hLi] at hy; cases hy
      obtain rfl := r28 (by first | exact hdH.out | exact hdH.out.1 | exact hdH.out.2 | exact hdH.out.2.1 | exact hdH.out.2.2 | exact hdH.out.2.2.1 | exact hdH.out.2.2.2 | exact hdH.out.2.2.2.1 | exact hdH.out.2.2.2.2 | exact hdH.out.2.2.2.2.1 | exact hdH.out.2.2.2.2.2 | exact hdH.out.2.2.2.2.2.1 | exact hdH.out.2.2.2.2.2.2 | exact hdH.out.2.2.2.2.2.2.1 | exact hdH.out.2.2.2.2.2.2.2 | exact hdH.out.2.2.2.2.2.2.2.1 | exact hdH.out.2.2.2.2.2.2.2.2 | exact hdH.out.2.2.2.2.2.2.2.2.1 | exact hdH.out.2.2.2.2.2.2.2.2.2 | exact hdH.out.2.2.2.2.2.2.2.2.2.1 | exact hdH.out.2.2.2.2.2.2.2.2.2.2 | exact hdH.out.2.2.2.2.2.2.2.2.2.2.1 | exact hdH.out.2.2.2.2.2.2.2.2.2.2.2 | exact hdH.out.2.2.2.2.2.2.2.2.2.2.2.1 | exact hdH.out.2.2.2.2.2.2.2.2.2.2.2.2 | exact hdH.out.2.2.2.2.2.2.2.2.2.2.2.2.1 | exact hdH.out.2.2.2.2.2.2.2.2.2.2.2.2.2 | exact hdH.out.2.2.2.2.2.2.2.2.2.2.2.2.2.1 | exact hdH.out.2.2.2.2.2.2.2.2.2.2.2.2.2.2 | exact hdH.out.2.2.2.2.2.2.2.2.2.2.2.2.2.2.1 | exact hdH.out.2.2.2.2.2.2.2.2.2.2.2.2.2.2.2 | exact hdH.out.2.2.2.2.2.2.2.2.2.2.2.2.2.2.2.1 | exact hdH.out.2.2.2.2.2.2.2.2.2.2.2.2.2.2.2.2)
      obtain rfl := r29 (by first | exact hdH.out | exact hdH.out.1 | exact hdH.out.2 | exact hdH.out.2.1 | exact hdH.out.2.2 | exact hdH.out.2.2.1 | exact hdH.out.2.2.2 | exact hdH.out.2.2.2.1 | exact hdH.out.2.2.2.2 | exact hdH.out.2.2.2.2.1 | exact hdH.out.2.2.2.2.2 | exact hdH.out.2.2.2.2.2.1 | exact hdH.out.2.2.2.2.2.2 | exact hdH.out.2.2.2.2.2.2.1 | exact hdH.out.2.2.2.2.2.2.2 | exact hdH.out.2.2.2.2.2.2.2.1 | exact hdH.out.2.2.2.2.2.2.2.2 | exact hdH.out.2.2.2.2.2.2.2.2.1 | exact hdH.out.2.2.2.2.2.2.2.2.2 | exact hdH.out.2.2.2.2.2.2.2.2.2.1 | exact hdH.out.2.2.2.2.2.2.2.2.2.2 | exact hdH.out.2.2.2.2.2.2.2.2.2.2.1 | exact hdH.out.2.2.2.2.2.2.2.2.2.2.2 | exact hdH.out.2.2.2.2.2.2.2.2.2.2.2.1 | exact hdH.out.2.2.2.2.2.2.2.2.2.2.2.2 | exact hdH.out.2.2.2.2.2.2.2.2.2.2.2.2.1 | exact hdH.out.2.2.2.2.2.2.2.2.2.2.2.2.2 | exact hdH.out.2.2.2.2.2.2.2.2.2.2.2.2.2.1 | exact hdH.out.2.2.2.2.2.2.2.2.2.2.2.2.2.2 | exact hdH.out.2.2.2.2.2.2.2.2.2.2.2.2.2.2.1 | exact hdH.out.2.2.2.2.2.2.2.2.2.2.2.2.2.2.2 | exact hdH.out.2.2.2.2.2.2.2.2.2.2.2.2.2.2.2.1 | exact hdH.out.2.2.2.2.2.2.2.2.2.2.2.2.2.2.2.2)
      obtain rfl := r30 (by first | exact hdH.out | exact hdH.out.1 | exact hdH.out.2 | exact hdH.out.2.1 | exact hdH.out.2.2 | exact hdH.out.2.2.1 | exact hdH.out.2.2.2 | exact hdH.out.2.2.2.1 | exact hdH.out.2.2.2.2 | exact hdH.out.2.2.2.2.1 | exact hdH.out.2.2.2.2.2 | exact hdH.out.2.2.2.2.2.1 | exact hdH.out.2.2.2.2.2.2 | exact hdH.out.2.2.2.2.2.2.1 | exact hdH.out.2.2.2.2.2.2.2 | exact hdH.out.2.2.2.2.2.2.2.1 | exact hdH.out.2.2.2.2.2.2.2.2 | exact hdH.out.2.2.2.2.2.2.2.2.1 | exact hdH.out.2.2.2.2.2.2.2.2.2 | exact hdH.out.2.2.2.2.2.2.2.2.2.1 | exact hdH.out.2.2.2.2.2.2.2.2.2.2 | exact hdH.out.2.2.2.2.2.2.2.2.2.2.1 | exact hdH.out.2.2.2.2.2.2.2.2.2.2.2 | exact hdH.out.2.2.2.2.2.2.2.2.2.2.2.1 | exact hdH.out.2.2.2.2.2.2.2.2.2.2.2.2 | exact hdH.out.2.2.2.2.2.2.2.2.2.2.2.2.1 | exact hdH.out.2.2.2.2.2.2.2.2.2.2.2.2.2 | exact hdH.out.2.2.2.2.2.2.2.2.2.2.2.2.2.1 | exact hdH.out.2.2.2.2.2.2.2.2.2.2.2.2.2.2 | exact hdH.out.2.2.2.2.2.2.2.2.2.2.2.2.2.2.1 | exact hdH.out.2.2.2.2.2.2.2.2.2.2.2.2.2.2.2 | exact hdH.out.2.2.2.2.2.2.2.2.2.2.2.2.2.2.2.1 | exact hdH.out.2.2.2.2.2.2.2.2.2.2.2.2.2.2.2.2)
      go_simp
      go_at_call 38; (with_reducible refine (hT.out _ (hbh.out _ hb)).mono ?_); rintro e w2 ⟨p, rfl, ho, hb2⟩
      exact hK _ _ ⟨v9, v10, v26, v27, _, _, _, _, v32, v33, v34, v35, v36, v37, v38, rfl, below_step hb hb2, (fun h h2 => (r9 h h2).below hb2), (r10), (r26), (r27), (fun _ => rfl), (fun _ => rfl), (fun _ => rfl), (fun _ _ => owns_base ho hb.size), (r32), (r33), (fun h _ => absurd (k34_31 h) (by simp [hLi])), (fun h h2 => owns_below (r35 h h2) hb2), (r36), (r37), (r38), (fun h => (qS h).below hb2), (kb0), (kb1), (kb2), (kb3), (fun _ => rfl), (kb5), (kb6), (kb7), (kb8), (kb9), (kb10), (kb11), (kb13), (fun _ => rfl)⟩
    by_cases hie : i = 5
    · subst hie
      obtain rfl := Option.some.inj ho
      simp [Region.binds] at hd
      try (have hdH := Lib.hid hd; clear hd)
      have hLs : L 14 = false := by
        cases hx : L 14 with
        | false => rfl
        | true => have hy := kb5 hx; rw [hLi] at hy; cases hy
      go_simp
      exact hK _ _ ⟨v9, v10, v26, v27, v28, v29, v30, v31, _, v33, v34, v35, v36, v37, v38, rfl, hb, (r9), (r10), (r26), (r27), (r28), (r29), (r30), (r31), (fun _ => rfl), (r33), (r34), (r35), (r36), (r37), (r38), (qS), (kb0), (kb1), (kb2), (kb3), (kb4), (fun _ => rfl), (kb6), (kb7), (kb8), (kb9), (kb10), (kb11), (kb13), (k34_31)⟩
    by_cases hie : i = 6
    · subst hie
      obtain rfl := Option.some.inj ho
      simp [Region.binds] at hd
      try (have hdH := Lib.hid hd; clear hd)
      have hLs : L 14 = false := by
        cases hx : L 14 with
        | false => rfl
        | true => have hy := kb6 hx; rw [hLi] at hy; cases hy
      obtain rfl := r32 (by first | exact hdH.out | exact hdH.out.1 | exact hdH.out.2 | exact hdH.out.2.1 | exact hdH.out.2.2 | exact hdH.out.2.2.1 | exact hdH.out.2.2.2 | exact hdH.out.2.2.2.1 | exact hdH.out.2.2.2.2 | exact hdH.out.2.2.2.2.1 | exact hdH.out.2.2.2.2.2 | exact hdH.out.2.2.2.2.2.1 | exact hdH.out.2.2.2.2.2.2 | exact hdH.out.2.2.2.2.2.2.1 | exact hdH.out.2.2.2.2.2.2.2 | exact hdH.out.2.2.2.2.2.2.2.1 | exact hdH.out.2.2.2.2.2.2.2.2 | exact hdH.out.2.2.2.2.2.2.2.2.1 | exact hdH.out.2.2.2.2.2.2.2.2.2 | exact hdH.out.2.2.2.2.2.2.2.2.2.1 | exact hdH.out.2.2.2.2.2.2.2.2.2.2 | exact hdH.out.2.2.2.2.2.2.2.2.2.2.1 | exact hdH.out.2.2.2.2.2.2.2.2.2.2.2 | exact hdH.out.2.2.2.2.2.2.2.2.2.2.2.1 | exact hdH.out.2.2.2.2.2.2.2.2.2.2.2.2 | exact hdH.out.2.2.2.2.2.2.2.2.2.2.2.2.1 | exact hdH.out.2.2.2.2.2.2.2.2.2.2.2.2.2 | exact hdH.out.2.2.2.2.2.2.2.2.2.2.2.2.2.1 | exact hdH.out.2.2.2.2.2.2.2.2.2.2.2.2.2.2 | exact hdH.out.2.2.2.2.2.2.2.2.2.2.2.2.2.2.1 | exact hdH.out.2.2.2.2.2.2.2.2.2.2.2.2.2.2.2 | exact hdH.out.2.2.2.2.2.2.2.2.2.2.2.2.2.2.2.1 | exact hdH.out.2.2.2.2.2.2.2.2.2.2.2.2.2.2.2.2)
      go_simp
      exact hK _ _ ⟨v9, v10, v26, v27, v28, v29, v30, v31, _, _, v34, v35, v36, v37, v38, rfl, hb, (r9), (r10), (r26), (r27), (r28), (r29), (r30), (r31), (fun _ => rfl), (fun _ => rfl), (r34), (r35), (r36), (r37), (r38), (qS), (kb0), (kb1), (kb2), (kb3), (kb4), (kb5), (fun _ => rfl), (kb7), (kb8), (kb9), (kb10), (kb11), (kb13), (k34_31)⟩
    by_cases hie : i = 7
    · subst hie
      obtain rfl := Option.some.inj ho
      simp [Region.binds] at hd
      try (have hdH := Lib.hid hd; clear hd)
      have hLs : L 14 = false := by
        cases hx : L 14 with
        | false => rfl
        | true => have hy := kb7 hx; rw [hLi] at hy; cases hy
      obtain rfl := r33 (by first | exact hdH.out | exact hdH.out.1 | exact hdH.out.2 | exact hdH.out.2.1 | exact hdH.out.2.2 | exact hdH.out.2.2.1 | exact hdH.out.2.2.2 | exact hdH.out.2.2.2.1 | exact hdH.out.2.2.2.2 | exact hdH.out.2.2.2.2.1 | exact hdH.out.2.2.2.2.2 | exact hdH.out.2.2.2.2.2.1 | exact hdH.out.2.2.2.2.2.2 | exact hdH.out.2.2.2.2.2.2.1 | exact hdH.out.2.2.2.2.2.2.2 | exact hdH.out.2.2.2.2.2.2.2.1 | exact hdH.out.2.2.2.2.2.2.2.2 | exact hdH.out.2.2.2.2.2.2.2.2.1 | exact hdH.out.2.2.2.2.2.2.2.2.2 | exact hdH.out.2.2.2.2.2.2.2.2.2.1 | exact hdH.out.2.2.2.2.2.2.2.2.2.2 | exact hdH.out.2.2.2.2.2.2.2.2.2.2.1 | exact hdH.out.2.2.2.2.2.2.2.2.2.2.2 | exact hdH.out.2.2.2.2.2.2.2.2.2.2.2.1 | exact hdH.out.2.2.2.2.2.2.2.2.2.2.2.2 | exact hdH.out.2.2.2.2.2.2.2.2.2.2.2.2.1 | exact hdH.out.2.2.2.2.2.2.2.2.2.2.2.2.2 | exact hdH.out.2.2.2.2.2.2.2.2.2.2.2.2.2.1 | exact hdH.out.2.2.2.2.2.2.2.2.2.2.2.2.2.2 | exact hdH.out.2.2.2.2.2.2.2.2.2.2.2.2.2.2.1 | exact hdH.out.2.2.2.2.2.2.2.2.2.2.2.2.2.2.2 | exact hdH.out.2.2.2.2.2.2.2.2.2.2.2.2.2.2.2.1 | exact hdH.out.2.2.2.2.2.2.2.2.2.2.2.2.2.2.2.2)
      obtain ⟨x31, m31, c31, rfl⟩ := owns_slice (r31 (by first | exact hdH.out | exact hdH.out.1 | exact hdH.out.2 | exact hdH.out.2.1 | exact hdH.out.2.2 | exact hdH.out.2.2.1 | exact hdH.out.2.2.2 | exact hdH.out.2.2.2.1 | exact hdH.out.2.2.2.2 | exact hdH.out.2.2.2.2.1 | exact hdH.out.2.2.2.2.2 | exact hdH.out.2.2.2.2.2.1 | exact hdH.out.2.2.2.2.2.2 | exact hdH.out.2.2.2.2.2.2.1 | exact hdH.out.2.2.2.2.2.2.2 | exact hdH.out.2.2.2.2.2.2.2.1 | exact hdH.out.2.2.2.2.2.2.2.2 | exact hdH.out.2.2.2.2.2.2.2.2.1 | exact hdH.out.2.2.2.2.2.2.2.2.2 | exact hdH.out.2.2.2.2.2.2.2.2.2.1 | exact hdH.out.2.2.2.2.2.2.2.2.2.2 | exact hdH.out.2.2.2.2.2.2.2.2.2.2.1 | exact hdH.out.2.2.2.2.2.2.2.2.2.2.2 | exact hdH.out.2.2.2.2.2.2.2.2.2.2.2.1 | exact hdH.out.2.2.2.2.2.2.2.2.2.2.2.2 | exact hdH.out.2.2.2.2.2.2.2.2.2.2.2.2.1 | exact hdH.out.2.2.2.2.2.2.2.2.2.2.2.2.2 | exact hdH.out.2.2.2.2.2.2.2.2.2.2.2.2.2.1 | exact hdH.out.2.2.2.2.2.2.2.2.2.2.2.2.2.2 | exact hdH.out.2.2.2.2.2.2.2.2.2.2.2.2.2.2.1 | exact hdH.out.2.2.2.2.2.2.2.2.2.2.2.2.2.2.2 | exact hdH.out.2.2.2.2.2.2.2.2.2.2.2.2.2.2.2.1 | exact hdH.out.2.2.2.2.2.2.2.2.2.2.2.2.2.2.2.2) hLs)
      have hb2 := below_alloc w1 (Obj.cells #[.slice x31 m31 c31, .slice a20 d.length (c3 - 20)] 33)
      go_simp
      exact hK _ _ ⟨v9, v10, v26, v27, v28, v29, v30, _, v32, _, _, v35, v36, v37, v38, rfl, below_step hb hb2, (fun h h2 => (r9 h h2).below hb2), (r10), (r26), (r27), (r28), (r29), (r30), (fun h h2 => owns_below (r31 h h2) hb2), (r32), (fun _ => rfl), (fun _ _ => Pair.made hb.size), (fun h h2 => owns_below (r35 h h2) hb2), (r36), (r37), (r38), (fun h => (qS h).below hb2), (kb0), (kb1), (kb2), (kb3), (kb4), (kb5), (kb6), (fun _ => rfl), (kb8), (kb9), (kb10), (kb11), (kb13), (fun _ => (by first | exact hdH.out | exact hdH.out.1 | exact hdH.out.2 | exact hdH.out.2.1 | exact hdH.out.2.2 | exact hdH.out.2.2.1 | exact hdH.out.2.2.2 | exact hdH.out.2.2.2.1 | exact hdH.out.2.2.2.2 | exact hdH.out.2.2.2.2.1 | exact hdH.out.2.2.2.2.2 | exact hdH.out.2.2.2.2.2.1 | exact hdH.out.2.2.2.2.2.2 | exact hdH.out.2.2.2.2.2.2.1 | exact hdH.out.2.2.2.2.2.2.2 | exact hdH.out.2.2.2.2.2.2.2.1 | exact hdH.out.2.2.2.2.2.2.2.2 | exact hdH.out.2.2.2.2.2.2.2.2.1 | exact hdH.out.2.2.2.2.2.2.2.2.2 | exact hdH.out.2.2.2.2.2.2.2.2.2.1 | exact hdH.out.2.2.2.2.2.2.2.2.2.2 | exact hdH.out.2.2.2.2.2.2.2.2.2.2.1 | exact hdH.out.2.2.2.2.2.2.2.2.2.2.2 | exact hdH.out.2.2.2.2.2.2.2.2.2.2.2.1 | exact hdH.out.2.2.2.2.2.2.2.2.2.2.2.2 | exact hdH.out.2.2.2.2.2.2.2.2.2.2.2.2.1 | exact hdH.out.2.2.2.2.2.2.2.2.2.2.2.2.2 | exact hdH.out.2.2.2.2.2.2.2.2.2.2.2.2.2.1 | exact hdH.out.2.2.2.2.2.2.2.2.2.2.2.2.2.2 | exact hdH.out.2.2.2.2.2.2.2.2.2.2.2.2.2.2.1 | exact hdH.out.2.2.2.2.2.2.2.2.2.2.2.2.2.2.2 | exact hdH.out.2.2.2.2.2.2.2.2.2.2.2.2.2.2.2.1 | exact hdH.out.2.2.2.2.2.2.2.2.2.2.2.2.2.2.2.2))⟩
    by_cases hie : i = 8
    · subst hie
      obtain rfl := Option.some.inj ho
      simp [Region.binds] at hd
      try (have hdH := Lib.hid hd; clear hd)
      have hLs : L 14 = false := by
        cases hx : L 14 with
        | false => rfl
        | true => have hy := kb8 hx; rw [hLi] at hy; cases hy
      go_simp
      go_at_call 41; (with_reducible refine (concat_pair (r34 (by first | exact hdH.out | exact hdH.out.1 | exact hdH.out.2 | exact hdH.out.2.1 | exact hdH.out.2.2 | exact hdH.out.2.2.1 | exact hdH.out.2.2.2 | exact hdH.out.2.2.2.1 | exact hdH.out.2.2.2.2 | exact hdH.out.2.2.2.2.1 | exact hdH.out.2.2.2.2.2 | exact hdH.out.2.2.2.2.2.1 | exact hdH.out.2.2.2.2.2.2 | exact hdH.out.2.2.2.2.2.2.1 | exact hdH.out.2.2.2.2.2.2.2 | exact hdH.out.2.2.2.2.2.2.2.1 | exact hdH.out.2.2.2.2.2.2.2.2 | exact hdH.out.2.2.2.2.2.2.2.2.1 | exact hdH.out.2.2.2.2.2.2.2.2.2 | exact hdH.out.2.2.2.2.2.2.2.2.2.1 | exact hdH.out.2.2.2.2.2.2.2.2.2.2 | exact hdH.out.2.2.2.2.2.2.2.2.2.2.1 | exact hdH.out.2.2.2.2.2.2.2.2.2.2.2 | exact hdH.out.2.2.2.2.2.2.2.2.2.2.2.1 | exact hdH.out.2.2.2.2.2.2.2.2.2.2.2.2 | exact hdH.out.2.2.2.2.2.2.2.2.2.2.2.2.1 | exact hdH.out.2.2.2.2.2.2.2.2.2.2.2.2.2 | exact hdH.out.2.2.2.2.2.2.2.2.2.2.2.2.2.1 | exact hdH.out.2.2.2.2.2.2.2.2.2.2.2.2.2.2 | exact hdH.out.2.2.2.2.2.2.2.2.2.2.2.2.2.2.1 | exact hdH.out.2.2.2.2.2.2.2.2.2.2.2.2.2.2.2 | exact hdH.out.2.2.2.2.2.2.2.2.2.2.2.2.2.2.2.1 | exact hdH.out.2.2.2.2.2.2.2.2.2.2.2.2.2.2.2.2) hLs) (owns_bytes (r31 (by first | exact hdH.out | exact hdH.out.1 | exact hdH.out.2 | exact hdH.out.2.1 | exact hdH.out.2.2 | exact hdH.out.2.2.1 | exact hdH.out.2.2.2 | exact hdH.out.2.2.2.1 | exact hdH.out.2.2.2.2 | exact hdH.out.2.2.2.2.1 | exact hdH.out.2.2.2.2.2 | exact hdH.out.2.2.2.2.2.1 | exact hdH.out.2.2.2.2.2.2 | exact hdH.out.2.2.2.2.2.2.1 | exact hdH.out.2.2.2.2.2.2.2 | exact hdH.out.2.2.2.2.2.2.2.1 | exact hdH.out.2.2.2.2.2.2.2.2 | exact hdH.out.2.2.2.2.2.2.2.2.1 | exact hdH.out.2.2.2.2.2.2.2.2.2 | exact hdH.out.2.2.2.2.2.2.2.2.2.1 | exact hdH.out.2.2.2.2.2.2.2.2.2.2 | exact hdH.out.2.2.2.2.2.2.2.2.2.2.1 | exact hdH.out.2.2.2.2.2.2.2.2.2.2.2 | exact hdH.out.2.2.2.2.2.2.2.2.2.2.2.1 | exact hdH.out.2.2.2.2.2.2.2.2.2.2.2.2 | exact hdH.out.2.2.2.2.2.2.2.2.2.2.2.2.1 | exact hdH.out.2.2.2.2.2.2.2.2.2.2.2.2.2 | exact hdH.out.2.2.2.2.2.2.2.2.2.2.2.2.2.1 | exact hdH.out.2.2.2.2.2.2.2.2.2.2.2.2.2.2 | exact hdH.out.2.2.2.2.2.2.2.2.2.2.2.2.2.2.1 | exact hdH.out.2.2.2.2.2.2.2.2.2.2.2.2.2.2.2 | exact hdH.out.2.2.2.2.2.2.2.2.2.2.2.2.2.2.2.1 | exact hdH.out.2.2.2.2.2.2.2.2.2.2.2.2.2.2.2.2) hLs)) (hbt.out _ hb) lT.out (by omega)).mono ?_); rintro e w2 ⟨p, rfl, ho, hb2⟩
      exact hK _ _ ⟨v9, v10, v26, v27, v28, v29, v30, v31, v32, v33, v34, _, v36, v37, v38, rfl, below_step hb hb2, (fun h h2 => (r9 h h2).below hb2), (r10), (r26), (r27), (r28), (r29), (r30), (fun h h2 => owns_below (r31 h h2) hb2), (r32), (r33), (fun h h2 => Pair.below (r34 h h2) hb2), (fun _ _ => owns_base ho hb.size), (r36), (r37), (r38), (fun h => (qS h).below hb2), (kb0), (kb1), (kb2), (kb3), (kb4), (kb5), (kb6), (kb7), (fun _ => rfl), (kb9), (kb10), (kb11), (kb13), (k34_31)⟩
    by_cases hie : i = 9
    · subst hie
      obtain rfl := Option.some.inj ho
      simp [Region.binds] at hd
      try (have hdH := Lib.hid hd; clear hd)
      have hLs : L 14 = false := by
        cases hx : L 14 with
        | false => rfl
        | true => have hy := kb9 hx; rw [hLi] at hy; cases hy
      go_simp
      go_at_call 32; (with_reducible refine (HBAD.out _ _ (owns_bytes (r35 (by first | exact hdH.out | exact hdH.out.1 | exact hdH.out.2 | exact hdH.out.2.1 | exact hdH.out.2.2 | exact hdH.out.2.2.1 | exact hdH.out.2.2.2 | exact hdH.out.2.2.2.1 | exact hdH.out.2.2.2.2 | exact hdH.out.2.2.2.2.1 | exact hdH.out.2.2.2.2.2 | exact hdH.out.2.2.2.2.2.1 | exact hdH.out.2.2.2.2.2.2 | exact hdH.out.2.2.2.2.2.2.1 | exact hdH.out.2.2.2.2.2.2.2 | exact hdH.out.2.2.2.2.2.2.2.1 | exact hdH.out.2.2.2.2.2.2.2.2 | exact hdH.out.2.2.2.2.2.2.2.2.1 | exact hdH.out.2.2.2.2.2.2.2.2.2 | exact hdH.out.2.2.2.2.2.2.2.2.2.1 | exact hdH.out.2.2.2.2.2.2.2.2.2.2 | exact hdH.out.2.2.2.2.2.2.2.2.2.2.1 | exact hdH.out.2.2.2.2.2.2.2.2.2.2.2 | exact hdH.out.2.2.2.2.2.2.2.2.2.2.2.1 | exact hdH.out.2.2.2.2.2.2.2.2.2.2.2.2 | exact hdH.out.2.2.2.2.2.2.2.2.2.2.2.2.1 | exact hdH.out.2.2.2.2.2.2.2.2.2.2.2.2.2 | exact hdH.out.2.2.2.2.2.2.2.2.2.2.2.2.2.1 | exact hdH.out.2.2.2.2.2.2.2.2.2.2.2.2.2.2 | exact hdH.out.2.2.2.2.2.2.2.2.2.2.2.2.2.2.1 | exact hdH.out.2.2.2.2.2.2.2.2.2.2.2.2.2.2.2 | exact hdH.out.2.2.2.2.2.2.2.2.2.2.2.2.2.2.2.1 | exact hdH.out.2.2.2.2.2.2.2.2.2.2.2.2.2.2.2.2) hLs))).mono ?_); rintro e w2 ⟨rfl, hb2⟩
      exact hK _ _ ⟨v9, v10, v26, v27, v28, v29, v30, v31, v32, v33, v34, v35, _, v37, v38, rfl, below_step hb hb2, (fun h h2 => (r9 h h2).below hb2), (r10), (r26), (r27), (r28), (r29), (r30), (fun h h2 => owns_below (r31 h h2) hb2), (r32), (r33), (fun h h2 => Pair.below (r34 h h2) hb2), (fun h h2 => owns_below (r35 h h2) hb2), (fun _ => rfl), (r37), (r38), (fun h => (qS h).below hb2), (kb0), (kb1), (kb2), (kb3), (kb4), (kb5), (kb6), (kb7), (kb8), (fun _ => rfl), (kb10), (kb11), (kb13), (k34_31)⟩
    by_cases hie : i = 10
    · subst hie
      obtain rfl := Option.some.inj ho
      simp [Region.binds] at hd
      try (have hdH := Lib.hid hd; clear hd)
      have hLs : L 14 = false := by
        cases hx : L 14 with
        | false => rfl
        | true => have hy := kb10 hx; rw [hLi] at hy; cases hy
      obtain rfl := r36 (by first | exact hdH.out | exact hdH.out.1 | exact hdH.out.2 | exact hdH.out.2.1 | exact hdH.out.2.2 | exact hdH.out.2.2.1 | exact hdH.out.2.2.2 | exact hdH.out.2.2.2.1 | exact hdH.out.2.2.2.2 | exact hdH.out.2.2.2.2.1 | exact hdH.out.2.2.2.2.2 | exact hdH.out.2.2.2.2.2.1 | exact hdH.out.2.2.2.2.2.2 | exact hdH.out.2.2.2.2.2.2.1 | exact hdH.out.2.2.2.2.2.2.2 | exact hdH.out.2.2.2.2.2.2.2.1 | exact hdH.out.2.2.2.2.2.2.2.2 | exact hdH.out.2.2.2.2.2.2.2.2.1 | exact hdH.out.2.2.2.2.2.2.2.2.2 | exact hdH.out.2.2.2.2.2.2.2.2.2.1 | exact hdH.out.2.2.2.2.2.2.2.2.2.2 | exact hdH.out.2.2.2.2.2.2.2.2.2.2.1 | exact hdH.out.2.2.2.2.2.2.2.2.2.2.2 | exact hdH.out.2.2.2.2.2.2.2.2.2.2.2.1 | exact hdH.out.2.2.2.2.2.2.2.2.2.2.2.2 | exact hdH.out.2.2.2.2.2.2.2.2.2.2.2.2.1 | exact hdH.out.2.2.2.2.2.2.2.2.2.2.2.2.2 | exact hdH.out.2.2.2.2.2.2.2.2.2.2.2.2.2.1 | exact hdH.out.2.2.2.2.2.2.2.2.2.2.2.2.2.2 | exact hdH.out.2.2.2.2.2.2.2.2.2.2.2.2.2.2.1 | exact hdH.out.2.2.2.2.2.2.2.2.2.2.2.2.2.2.2 | exact hdH.out.2.2.2.2.2.2.2.2.2.2.2.2.2.2.2.1 | exact hdH.out.2.2.2.2.2.2.2.2.2.2.2.2.2.2.2.2)
      go_simp
      exact hK _ _ ⟨v9, v10, _, v27, v28, v29, v30, v31, v32, v33, v34, v35, _, v37, v38, rfl, hb, (r9), (r10), (fun _ => rfl), (r27), (r28), (r29), (r30), (r31), (r32), (r33), (r34), (r35), (fun _ => rfl), (r37), (r38), (qS), (kb0), (kb1), (kb2), (kb3), (kb4), (kb5), (kb6), (kb7), (kb8), (kb9), (fun _ => rfl), (kb11), (kb13), (k34_31)⟩
    by_cases hie : i = 11
    · subst hie
      obtain rfl := Option.some.inj ho
      simp [Region.binds] at hd
      try (have hdH := Lib.hid hd; clear hd)
      have hLs : L 14 = false := by
        cases hx : L 14 with
        | false => rfl
        | true => have hy := kb11 hx; rw [hLi] at hy; cases hy
      obtain rfl := r26 (by first | exact hdH.out | exact hdH.out.1 | exact hdH.out.2 | exact hdH.out.2.1 | exact hdH.out.2.2 | exact hdH.out.2.2.1 | exact hdH.out.2.2.2 | exact hdH.out.2.2.2.1 | exact hdH.out.2.2.2.2 | exact hdH.out.2.2.2.2.1 | exact hdH.out.2.2.2.2.2 | exact hdH.out.2.2.2.2.2.1 | exact hdH.out.2.2.2.2.2.2 | exact hdH.out.2.2.2.2.2.2.1 | exact hdH.out.2.2.2.2.2.2.2 | exact hdH.out.2.2.2.2.2.2.2.1 | exact hdH.out.2.2.2.2.2.2.2.2 | exact hdH.out.2.2.2.2.2.2.2.2.1 | exact hdH.out.2.2.2.2.2.2.2.2.2 | exact hdH.out.2.2.2.2.2.2.2.2.2.1 | exact hdH.out.2.2.2.2.2.2.2.2.2.2 | exact hdH.out.2.2.2.2.2.2.2.2.2.2.1 | exact hdH.out.2.2.2.2.2.2.2.2.2.2.2 | exact hdH.out.2.2.2.2.2.2.2.2.2.2.2.1 | exact hdH.out.2.2.2.2.2.2.2.2.2.2.2.2 | exact hdH.out.2.2.2.2.2.2.2.2.2.2.2.2.1 | exact hdH.out.2.2.2.2.2.2.2.2.2.2.2.2.2 | exact hdH.out.2.2.2.2.2.2.2.2.2.2.2.2.2.1 | exact hdH.out.2.2.2.2.2.2.2.2.2.2.2.2.2.2 | exact hdH.out.2.2.2.2.2.2.2.2.2.2.2.2.2.2.1 | exact hdH.out.2.2.2.2.2.2.2.2.2.2.2.2.2.2.2 | exact hdH.out.2.2.2.2.2.2.2.2.2.2.2.2.2.2.2.1 | exact hdH.out.2.2.2.2.2.2.2.2.2.2.2.2.2.2.2.2)
      go_simp
      exact hK _ _ ⟨v9, v10, _, v27, v28, v29, v30, v31, v32, v33, v34, v35, v36, _, v38, rfl, hb, (r9), (r10), (fun _ => rfl), (r27), (r28), (r29), (r30), (r31), (r32), (r33), (r34), (r35), (r36), (fun _ => rfl), (r38), (qS), (kb0), (kb1), (kb2), (kb3), (kb4), (kb5), (kb6), (kb7), (kb8), (kb9), (kb10), (fun _ => rfl), (kb13), (k34_31)⟩
    by_cases hie : i = 12
    · subst hie
      obtain rfl := Option.some.inj ho
      simp [Region.binds] at hd
      try (have hdH := Lib.hid hd; clear hd)
      obtain rfl := r26 (by first | exact hdH.out | exact hdH.out.1 | exact hdH.out.2 | exact hdH.out.2.1 | exact hdH.out.2.2 | exact hdH.out.2.2.1 | exact hdH.out.2.2.2 | exact hdH.out.2.2.2.1 | exact hdH.out.2.2.2.2 | exact hdH.out.2.2.2.2.1 | exact hdH.out.2.2.2.2.2 | exact hdH.out.2.2.2.2.2.1 | exact hdH.out.2.2.2.2.2.2 | exact hdH.out.2.2.2.2.2.2.1 | exact hdH.out.2.2.2.2.2.2.2 | exact hdH.out.2.2.2.2.2.2.2.1 | exact hdH.out.2.2.2.2.2.2.2.2 | exact hdH.out.2.2.2.2.2.2.2.2.1 | exact hdH.out.2.2.2.2.2.2.2.2.2 | exact hdH.out.2.2.2.2.2.2.2.2.2.1 | exact hdH.out.2.2.2.2.2.2.2.2.2.2 | exact hdH.out.2.2.2.2.2.2.2.2.2.2.1 | exact hdH.out.2.2.2.2.2.2.2.2.2.2.2 | exact hdH.out.2.2.2.2.2.2.2.2.2.2.2.1 | exact hdH.out.2.2.2.2.2.2.2.2.2.2.2.2 | exact hdH.out.2.2.2.2.2.2.2.2.2.2.2.2.1 | exact hdH.out.2.2.2.2.2.2.2.2.2.2.2.2.2 | exact hdH.out.2.2.2.2.2.2.2.2.2.2.2.2.2.1 | exact hdH.out.2.2.2.2.2.2.2.2.2.2.2.2.2.2 | exact hdH.out.2.2.2.2.2.2.2.2.2.2.2.2.2.2.1 | exact hdH.out.2.2.2.2.2.2.2.2.2.2.2.2.2.2.2 | exact hdH.out.2.2.2.2.2.2.2.2.2.2.2.2.2.2.2.1 | exact hdH.out.2.2.2.2.2.2.2.2.2.2.2.2.2.2.2.2)
      go_simp
      exact hK _ _ ⟨v9, v10, _, v27, v28, v29, v30, v31, v32, v33, v34, v35, v36, v37, _, rfl, hb, (r9), (r10), (fun _ => rfl), (r27), (r28), (r29), (r30), (r31), (r32), (r33), (r34), (r35), (r36), (r37), (fun _ => rfl), (qS), (kb0), (kb1), (kb2), (kb3), (kb4), (kb5), (kb6), (kb7), (kb8), (kb9), (kb10), (kb11), (kb13), (k34_31)⟩
    by_cases hie : i = 13
    · subst hie
      obtain rfl := Option.some.inj ho
      simp [Region.binds] at hd
      try (have hdH := Lib.hid hd; clear hd)
      have hLs : L 14 = false := by
        cases hx : L 14 with
        | false => rfl
        | true => have hy := kb13 hx; rw [hLi] at hy; cases hy
      go_simp
      exact hK _ _ ⟨_, v10, v26, v27, v28, v29, v30, v31, v32, v33, v34, v35, v36, v37, v38, rfl, hb.alloc hb.size _, (fun _ _ => Fresh.made _ _ hb.size), (r10), (r26), (r27), (r28), (r29), (r30), (fun h h2 => owns_below (r31 h h2) (below_alloc _ _)), (r32), (r33), (fun h h2 => Pair.below (r34 h h2) (below_alloc _ _)), (fun h h2 => owns_below (r35 h h2) (below_alloc _ _)), (r36), (r37), (r38), (fun h => absurd (kb13 h) (by simp [hLi])), (kb0), (kb1), (kb2), (kb3), (kb4), (kb5), (kb6), (kb7), (kb8), (kb9), (kb10), (kb11), (fun _ => rfl), (k34_31)⟩
    by_cases hie : i = 14
    · subst hie
      obtain rfl := Option.some.inj ho
      simp [Region.binds] at hd
      try (have hdH := Lib.hid hd; clear hd)
      have hLs := hLi
      obtain rfl := r37 (by first | exact hdH.out | exact hdH.out.1 | exact hdH.out.2 | exact hdH.out.2.1 | exact hdH.out.2.2 | exact hdH.out.2.2.1 | exact hdH.out.2.2.2 | exact hdH.out.2.2.2.1 | exact hdH.out.2.2.2.2 | exact hdH.out.2.2.2.2.1 | exact hdH.out.2.2.2.2.2 | exact hdH.out.2.2.2.2.2.1 | exact hdH.out.2.2.2.2.2.2 | exact hdH.out.2.2.2.2.2.2.1 | exact hdH.out.2.2.2.2.2.2.2 | exact hdH.out.2.2.2.2.2.2.2.1 | exact hdH.out.2.2.2.2.2.2.2.2 | exact hdH.out.2.2.2.2.2.2.2.2.1 | exact hdH.out.2.2.2.2.2.2.2.2.2 | exact hdH.out.2.2.2.2.2.2.2.2.2.1 | exact hdH.out.2.2.2.2.2.2.2.2.2.2 | exact hdH.out.2.2.2.2.2.2.2.2.2.2.1 | exact hdH.out.2.2.2.2.2.2.2.2.2.2.2 | exact hdH.out.2.2.2.2.2.2.2.2.2.2.2.1 | exact hdH.out.2.2.2.2.2.2.2.2.2.2.2.2 | exact hdH.out.2.2.2.2.2.2.2.2.2.2.2.2.1 | exact hdH.out.2.2.2.2.2.2.2.2.2.2.2.2.2 | exact hdH.out.2.2.2.2.2.2.2.2.2.2.2.2.2.1 | exact hdH.out.2.2.2.2.2.2.2.2.2.2.2.2.2.2 | exact hdH.out.2.2.2.2.2.2.2.2.2.2.2.2.2.2.1 | exact hdH.out.2.2.2.2.2.2.2.2.2.2.2.2.2.2.2 | exact hdH.out.2.2.2.2.2.2.2.2.2.2.2.2.2.2.2.1 | exact hdH.out.2.2.2.2.2.2.2.2.2.2.2.2.2.2.2.2)
      obtain ⟨bS, eS, gS, lS, cS, zS⟩ := (r9 (by first | exact hdH.out | exact hdH.out.1 | exact hdH.out.2 | exact hdH.out.2.1 | exact hdH.out.2.2 | exact hdH.out.2.2.1 | exact hdH.out.2.2.2 | exact hdH.out.2.2.2.1 | exact hdH.out.2.2.2.2 | exact hdH.out.2.2.2.2.1 | exact hdH.out.2.2.2.2.2 | exact hdH.out.2.2.2.2.2.1 | exact hdH.out.2.2.2.2.2.2 | exact hdH.out.2.2.2.2.2.2.1 | exact hdH.out.2.2.2.2.2.2.2 | exact hdH.out.2.2.2.2.2.2.2.1 | exact hdH.out.2.2.2.2.2.2.2.2 | exact hdH.out.2.2.2.2.2.2.2.2.1 | exact hdH.out.2.2.2.2.2.2.2.2.2 | exact hdH.out.2.2.2.2.2.2.2.2.2.1 | exact hdH.out.2.2.2.2.2.2.2.2.2.2 | exact hdH.out.2.2.2.2.2.2.2.2.2.2.1 | exact hdH.out.2.2.2.2.2.2.2.2.2.2.2 | exact hdH.out.2.2.2.2.2.2.2.2.2.2.2.1 | exact hdH.out.2.2.2.2.2.2.2.2.2.2.2.2 | exact hdH.out.2.2.2.2.2.2.2.2.2.2.2.2.1 | exact hdH.out.2.2.2.2.2.2.2.2.2.2.2.2.2 | exact hdH.out.2.2.2.2.2.2.2.2.2.2.2.2.2.1 | exact hdH.out.2.2.2.2.2.2.2.2.2.2.2.2.2.2 | exact hdH.out.2.2.2.2.2.2.2.2.2.2.2.2.2.2.1 | exact hdH.out.2.2.2.2.2.2.2.2.2.2.2.2.2.2.2 | exact hdH.out.2.2.2.2.2.2.2.2.2.2.2.2.2.2.2.1 | exact hdH.out.2.2.2.2.2.2.2.2.2.2.2.2.2.2.2.2) hLs)
      subst eS
      have cS0 := cS 0 _ rfl
      have cS1 := cS 1 _ rfl
      have cS2 := cS 2 _ rfl
      have HQ := Fresh.set (ys := [.int .u32 0, .int .u32 0, .slice none 0 0]) ⟨bS, rfl, gS, lS, cS, zS⟩ rfl
      go_simp
      exact hK _ _ ⟨_, v10, v26, v27, v28, v29, v30, v31, v32, v33, v34, v35, v36, _, v38, rfl, (((hb).setCell gS _).setCell gS _).setCell gS _, (fun _ h => absurd h (by simp)), (r10), (r26), (r27), (r28), (r29), (r30), (fun _ h => absurd h (by simp)), (r32), (r33), (fun _ h => absurd h (by simp)), (fun _ h => absurd h (by simp)), (r36), (fun _ => rfl), (r38), (fun _ => HQ), (fun _ => (by first | exact hdH.out | exact hdH.out.1 | exact hdH.out.2 | exact hdH.out.2.1 | exact hdH.out.2.2 | exact hdH.out.2.2.1 | exact hdH.out.2.2.2 | exact hdH.out.2.2.2.1 | exact hdH.out.2.2.2.2 | exact hdH.out.2.2.2.2.1 | exact hdH.out.2.2.2.2.2 | exact hdH.out.2.2.2.2.2.1 | exact hdH.out.2.2.2.2.2.2 | exact hdH.out.2.2.2.2.2.2.1 | exact hdH.out.2.2.2.2.2.2.2 | exact hdH.out.2.2.2.2.2.2.2.1 | exact hdH.out.2.2.2.2.2.2.2.2 | exact hdH.out.2.2.2.2.2.2.2.2.1 | exact hdH.out.2.2.2.2.2.2.2.2.2 | exact hdH.out.2.2.2.2.2.2.2.2.2.1 | exact hdH.out.2.2.2.2.2.2.2.2.2.2 | exact hdH.out.2.2.2.2.2.2.2.2.2.2.1 | exact hdH.out.2.2.2.2.2.2.2.2.2.2.2 | exact hdH.out.2.2.2.2.2.2.2.2.2.2.2.1 | exact hdH.out.2.2.2.2.2.2.2.2.2.2.2.2 | exact hdH.out.2.2.2.2.2.2.2.2.2.2.2.2.1 | exact hdH.out.2.2.2.2.2.2.2.2.2.2.2.2.2 | exact hdH.out.2.2.2.2.2.2.2.2.2.2.2.2.2.1 | exact hdH.out.2.2.2.2.2.2.2.2.2.2.2.2.2.2 | exact hdH.out.2.2.2.2.2.2.2.2.2.2.2.2.2.2.1 | exact hdH.out.2.2.2.2.2.2.2.2.2.2.2.2.2.2.2 | exact hdH.out.2.2.2.2.2.2.2.2.2.2.2.2.2.2.2.1 | exact hdH.out.2.2.2.2.2.2.2.2.2.2.2.2.2.2.2.2)), (fun _ => (by first | exact hdH.out | exact hdH.out.1 | exact hdH.out.2 | exact hdH.out.2.1 | exact hdH.out.2.2 | exact hdH.out.2.2.1 | exact hdH.out.2.2.2 | exact hdH.out.2.2.2.1 | exact hdH.out.2.2.2.2 | exact hdH.out.2.2.2.2.1 | exact hdH.out.2.2.2.2.2 | exact hdH.out.2.2.2.2.2.1 | exact hdH.out.2.2.2.2.2.2 | exact hdH.out.2.2.2.2.2.2.1 | exact hdH.out.2.2.2.2.2.2.2 | exact hdH.out.2.2.2.2.2.2.2.1 | exact hdH.out.2.2.2.2.2.2.2.2 | exact hdH.out.2.2.2.2.2.2.2.2.1 | exact hdH.out.2.2.2.2.2.2.2.2.2 | exact hdH.out.2.2.2.2.2.2.2.2.2.1 | exact hdH.out.2.2.2.2.2.2.2.2.2.2 | exact hdH.out.2.2.2.2.2.2.2.2.2.2.1 | exact hdH.out.2.2.2.2.2.2.2.2.2.2.2 | exact hdH.out.2.2.2.2.2.2.2.2.2.2.2.1 | exact hdH.out.2.2.2.2.2.2.2.2.2.2.2.2 | exact hdH.out.2.2.2.2.2.2.2.2.2.2.2.2.1 | exact hdH.out.2.2.2.2.2.2.2.2.2.2.2.2.2 | exact hdH.out.2.2.2.2.2.2.2.2.2.2.2.2.2.1 | exact hdH.out.2.2.2.2.2.2.2.2.2.2.2.2.2.2 | exact hdH.out.2.2.2.2.2.2.2.2.2.2.2.2.2.2.1 | exact hdH.out.2.2.2.2.2.2.2.2.2.2.2.2.2.2.2 | exact hdH.out.2.2.2.2.2.2.2.2.2.2.2.2.2.2.2.1 | exact hdH.out.2.2.2.2.2.2.2.2.2.2.2.2.2.2.2.2)), (fun _ => (by first | exact hdH.out | exact hdH.out.1 | exact hdH.out.2 | exact hdH.out.2.1 | exact hdH.out.2.2 | exact hdH.out.2.2.1 | exact hdH.out.2.2.2 | exact hdH.out.2.2.2.1 | exact hdH.out.2.2.2.2 | exact hdH.out.2.2.2.2.1 | exact hdH.out.2.2.2.2.2 | exact hdH.out.2.2.2.2.2.1 | exact hdH.out.2.2.2.2.2.2 | exact hdH.out.2.2.2.2.2.2.1 | exact hdH.out.2.2.2.2.2.2.2 | exact hdH.out.2.2.2.2.2.2.2.1 | exact hdH.out.2.2.2.2.2.2.2.2 | exact hdH.out.2.2.2.2.2.2.2.2.1 | exact hdH.out.2.2.2.2.2.2.2.2.2 | exact hdH.out.2.2.2.2.2.2.2.2.2.1 | exact hdH.out.2.2.2.2.2.2.2.2.2.2 | exact hdH.out.2.2.2.2.2.2.2.2.2.2.1 | exact hdH.out.2.2.2.2.2.2.2.2.2.2.2 | exact hdH.out.2.2.2.2.2.2.2.2.2.2.2.1 | exact hdH.out.2.2.2.2.2.2.2.2.2.2.2.2 | exact hdH.out.2.2.2.2.2.2.2.2.2.2.2.2.1 | exact hdH.out.2.2.2.2.2.2.2.2.2.2.2.2.2 | exact hdH.out.2.2.2.2.2.2.2.2.2.2.2.2.2.1 | exact hdH.out.2.2.2.2.2.2.2.2.2.2.2.2.2.2 | exact hdH.out.2.2.2.2.2.2.2.2.2.2.2.2.2.2.1 | exact hdH.out.2.2.2.2.2.2.2.2.2.2.2.2.2.2.2 | exact hdH.out.2.2.2.2.2.2.2.2.2.2.2.2.2.2.2.1 | exact hdH.out.2.2.2.2.2.2.2.2.2.2.2.2.2.2.2.2)), (fun _ => (by first | exact hdH.out | exact hdH.out.1 | exact hdH.out.2 | exact hdH.out.2.1 | exact hdH.out.2.2 | exact hdH.out.2.2.1 | exact hdH.out.2.2.2 | exact hdH.out.2.2.2.1 | exact hdH.out.2.2.2.2 | exact hdH.out.2.2.2.2.1 | exact hdH.out.2.2.2.2.2 | exact hdH.out.2.2.2.2.2.1 | exact hdH.out.2.2.2.2.2.2 | exact hdH.out.2.2.2.2.2.2.1 | exact hdH.out.2.2.2.2.2.2.2 | exact hdH.out.2.2.2.2.2.2.2.1 | exact hdH.out.2.2.2.2.2.2.2.2 | exact hdH.out.2.2.2.2.2.2.2.2.1 | exact hdH.out.2.2.2.2.2.2.2.2.2 | exact hdH.out.2.2.2.2.2.2.2.2.2.1 | exact hdH.out.2.2.2.2.2.2.2.2.2.2 | exact hdH.out.2.2.2.2.2.2.2.2.2.2.1 | exact hdH.out.2.2.2.2.2.2.2.2.2.2.2 | exact hdH.out.2.2.2.2.2.2.2.2.2.2.2.1 | exact hdH.out.2.2.2.2.2.2.2.2.2.2.2.2 | exact hdH.out.2.2.2.2.2.2.2.2.2.2.2.2.1 | exact hdH.out.2.2.2.2.2.2.2.2.2.2.2.2.2 | exact hdH.out.2.2.2.2.2.2.2.2.2.2.2.2.2.1 | exact hdH.out.2.2.2.2.2.2.2.2.2.2.2.2.2.2 | exact hdH.out.2.2.2.2.2.2.2.2.2.2.2.2.2.2.1 | exact hdH.out.2.2.2.2.2.2.2.2.2.2.2.2.2.2.2 | exact hdH.out.2.2.2.2.2.2.2.2.2.2.2.2.2.2.2.1 | exact hdH.out.2.2.2.2.2.2.2.2.2.2.2.2.2.2.2.2)), (fun _ => (by first | exact hdH.out | exact hdH.out.1 | exact hdH.out.2 | exact hdH.out.2.1 | exact hdH.out.2.2 | exact hdH.out.2.2.1 | exact hdH.out.2.2.2 | exact hdH.out.2.2.2.1 | exact hdH.out.2.2.2.2 | exact hdH.out.2.2.2.2.1 | exact hdH.out.2.2.2.2.2 | exact hdH.out.2.2.2.2.2.1 | exact hdH.out.2.2.2.2.2.2 | exact hdH.out.2.2.2.2.2.2.1 | exact hdH.out.2.2.2.2.2.2.2 | exact hdH.out.2.2.2.2.2.2.2.1 | exact hdH.out.2.2.2.2.2.2.2.2 | exact hdH.out.2.2.2.2.2.2.2.2.1 | exact hdH.out.2.2.2.2.2.2.2.2.2 | exact hdH.out.2.2.2.2.2.2.2.2.2.1 | exact hdH.out.2.2.2.2.2.2.2.2.2.2 | exact hdH.out.2.2.2.2.2.2.2.2.2.2.1 | exact hdH.out.2.2.2.2.2.2.2.2.2.2.2 | exact hdH.out.2.2.2.2.2.2.2.2.2.2.2.1 | exact hdH.out.2.2.2.2.2.2.2.2.2.2.2.2 | exact hdH.out.2.2.2.2.2.2.2.2.2.2.2.2.1 | exact hdH.out.2.2.2.2.2.2.2.2.2.2.2.2.2 | exact hdH.out.2.2.2.2.2.2.2.2.2.2.2.2.2.1 | exact hdH.out.2.2.2.2.2.2.2.2.2.2.2.2.2.2 | exact hdH.out.2.2.2.2.2.2.2.2.2.2.2.2.2.2.1 | exact hdH.out.2.2.2.2.2.2.2.2.2.2.2.2.2.2.2 | exact hdH.out.2.2.2.2.2.2.2.2.2.2.2.2.2.2.2.1 | exact hdH.out.2.2.2.2.2.2.2.2.2.2.2.2.2.2.2.2)), (fun _ => (by first | exact hdH.out | exact hdH.out.1 | exact hdH.out.2 | exact hdH.out.2.1 | exact hdH.out.2.2 | exact hdH.out.2.2.1 | exact hdH.out.2.2.2 | exact hdH.out.2.2.2.1 | exact hdH.out.2.2.2.2 | exact hdH.out.2.2.2.2.1 | exact hdH.out.2.2.2.2.2 | exact hdH.out.2.2.2.2.2.1 | exact hdH.out.2.2.2.2.2.2 | exact hdH.out.2.2.2.2.2.2.1 | exact hdH.out.2.2.2.2.2.2.2 | exact hdH.out.2.2.2.2.2.2.2.1 | exact hdH.out.2.2.2.2.2.2.2.2 | exact hdH.out.2.2.2.2.2.2.2.2.1 | exact hdH.out.2.2.2.2.2.2.2.2.2 | exact hdH.out.2.2.2.2.2.2.2.2.2.1 | exact hdH.out.2.2.2.2.2.2.2.2.2.2 | exact hdH.out.2.2.2.2.2.2.2.2.2.2.1 | exact hdH.out.2.2.2.2.2.2.2.2.2.2.2 | exact hdH.out.2.2.2.2.2.2.2.2.2.2.2.1 | exact hdH.out.2.2.2.2.2.2.2.2.2.2.2.2 | exact hdH.out.2.2.2.2.2.2.2.2.2.2.2.2.1 | exact hdH.out.2.2.2.2.2.2.2.2.2.2.2.2.2 | exact hdH.out.2.2.2.2.2.2.2.2.2.2.2.2.2.1 | exact hdH.out.2.2.2.2.2.2.2.2.2.2.2.2.2.2 | exact hdH.out.2.2.2.2.2.2.2.2.2.2.2.2.2.2.1 | exact hdH.out.2.2.2.2.2.2.2.2.2.2.2.2.2.2.2 | exact hdH.out.2.2.2.2.2.2.2.2.2.2.2.2.2.2.2.1 | exact hdH.out.2.2.2.2.2.2.2.2.2.2.2.2.2.2.2.2)), (fun _ => (by first | exact hdH.out | exact hdH.out.1 | exact hdH.out.2 | exact hdH.out.2.1 | exact hdH.out.2.2 | exact hdH.out.2.2.1 | exact hdH.out.2.2.2 | exact hdH.out.2.2.2.1 | exact hdH.out.2.2.2.2 | exact hdH.out.2.2.2.2.1 | exact hdH.out.2.2.2.2.2 | exact hdH.out.2.2.2.2.2.1 | exact hdH.out.2.2.2.2.2.2 | exact hdH.out.2.2.2.2.2.2.1 | exact hdH.out.2.2.2.2.2.2.2 | exact hdH.out.2.2.2.2.2.2.2.1 | exact hdH.out.2.2.2.2.2.2.2.2 | exact hdH.out.2.2.2.2.2.2.2.2.1 | exact hdH.out.2.2.2.2.2.2.2.2.2 | exact hdH.out.2.2.2.2.2.2.2.2.2.1 | exact hdH.out.2.2.2.2.2.2.2.2.2.2 | exact hdH.out.2.2.2.2.2.2.2.2.2.2.1 | exact hdH.out.2.2.2.2.2.2.2.2.2.2.2 | exact hdH.out.2.2.2.2.2.2.2.2.2.2.2.1 | exact hdH.out.2.2.2.2.2.2.2.2.2.2.2.2 | exact hdH.out.2.2.2.2.2.2.2.2.2.2.2.2.1 | exact hdH.out.2.2.2.2.2.2.2.2.2.2.2.2.2 | exact hdH.out.2.2.2.2.2.2.2.2.2.2.2.2.2.1 | exact hdH.out.2.2.2.2.2.2.2.2.2.2.2.2.2.2 | exact hdH.out.2.2.2.2.2.2.2.2.2.2.2.2.2.2.1 | exact hdH.out.2.2.2.2.2.2.2.2.2.2.2.2.2.2.2 | exact hdH.out.2.2.2.2.2.2.2.2.2.2.2.2.2.2.2.1 | exact hdH.out.2.2.2.2.2.2.2.2.2.2.2.2.2.2.2.2)), (fun _ => (by first | exact hdH.out | exact hdH.out.1 | exact hdH.out.2 | exact hdH.out.2.1 | exact hdH.out.2.2 | exact hdH.out.2.2.1 | exact hdH.out.2.2.2 | exact hdH.out.2.2.2.1 | exact hdH.out.2.2.2.2 | exact hdH.out.2.2.2.2.1 | exact hdH.out.2.2.2.2.2 | exact hdH.out.2.2.2.2.2.1 | exact hdH.out.2.2.2.2.2.2 | exact hdH.out.2.2.2.2.2.2.1 | exact hdH.out.2.2.2.2.2.2.2 | exact hdH.out.2.2.2.2.2.2.2.1 | exact hdH.out.2.2.2.2.2.2.2.2 | exact hdH.out.2.2.2.2.2.2.2.2.1 | exact hdH.out.2.2.2.2.2.2.2.2.2 | exact hdH.out.2.2.2.2.2.2.2.2.2.1 | exact hdH.out.2.2.2.2.2.2.2.2.2.2 | exact hdH.out.2.2.2.2.2.2.2.2.2.2.1 | exact hdH.out.2.2.2.2.2.2.2.2.2.2.2 | exact hdH.out.2.2.2.2.2.2.2.2.2.2.2.1 | exact hdH.out.2.2.2.2.2.2.2.2.2.2.2.2 | exact hdH.out.2.2.2.2.2.2.2.2.2.2.2.2.1 | exact hdH.out.2.2.2.2.2.2.2.2.2.2.2.2.2 | exact hdH.out.2.2.2.2.2.2.2.2.2.2.2.2.2.1 | exact hdH.out.2.2.2.2.2.2.2.2.2.2.2.2.2.2 | exact hdH.out.2.2.2.2.2.2.2.2.2.2.2.2.2.2.1 | exact hdH.out.2.2.2.2.2.2.2.2.2.2.2.2.2.2.2 | exact hdH.out.2.2.2.2.2.2.2.2.2.2.2.2.2.2.2.1 | exact hdH.out.2.2.2.2.2.2.2.2.2.2.2.2.2.2.2.2)), (fun _ => (by first | exact hdH.out | exact hdH.out.1 | exact hdH.out.2 | exact hdH.out.2.1 | exact hdH.out.2.2 | exact hdH.out.2.2.1 | exact hdH.out.2.2.2 | exact hdH.out.2.2.2.1 | exact hdH.out.2.2.2.2 | exact hdH.out.2.2.2.2.1 | exact hdH.out.2.2.2.2.2 | exact hdH.out.2.2.2.2.2.1 | exact hdH.out.2.2.2.2.2.2 | exact hdH.out.2.2.2.2.2.2.1 | exact hdH.out.2.2.2.2.2.2.2 | exact hdH.out.2.2.2.2.2.2.2.1 | exact hdH.out.2.2.2.2.2.2.2.2 | exact hdH.out.2.2.2.2.2.2.2.2.1 | exact hdH.out.2.2.2.2.2.2.2.2.2 | exact hdH.out.2.2.2.2.2.2.2.2.2.1 | exact hdH.out.2.2.2.2.2.2.2.2.2.2 | exact hdH.out.2.2.2.2.2.2.2.2.2.2.1 | exact hdH.out.2.2.2.2.2.2.2.2.2.2.2 | exact hdH.out.2.2.2.2.2.2.2.2.2.2.2.1 | exact hdH.out.2.2.2.2.2.2.2.2.2.2.2.2 | exact hdH.out.2.2.2.2.2.2.2.2.2.2.2.2.1 | exact hdH.out.2.2.2.2.2.2.2.2.2.2.2.2.2 | exact hdH.out.2.2.2.2.2.2.2.2.2.2.2.2.2.1 | exact hdH.out.2.2.2.2.2.2.2.2.2.2.2.2.2.2 | exact hdH.out.2.2.2.2.2.2.2.2.2.2.2.2.2.2.1 | exact hdH.out.2.2.2.2.2.2.2.2.2.2.2.2.2.2.2 | exact hdH.out.2.2.2.2.2.2.2.2.2.2.2.2.2.2.2.1 | exact hdH.out.2.2.2.2.2.2.2.2.2.2.2.2.2.2.2.2)), (fun _ => (by first | exact hdH.out | exact hdH.out.1 | exact hdH.out.2 | exact hdH.out.2.1 | exact hdH.out.2.2 | exact hdH.out.2.2.1 | exact hdH.out.2.2.2 | exact hdH.out.2.2.2.1 | exact hdH.out.2.2.2.2 | exact hdH.out.2.2.2.2.1 | exact hdH.out.2.2.2.2.2 | exact hdH.out.2.2.2.2.2.1 | exact hdH.out.2.2.2.2.2.2 | exact hdH.out.2.2.2.2.2.2.1 | exact hdH.out.2.2.2.2.2.2.2 | exact hdH.out.2.2.2.2.2.2.2.1 | exact hdH.out.2.2.2.2.2.2.2.2 | exact hdH.out.2.2.2.2.2.2.2.2.1 | exact hdH.out.2.2.2.2.2.2.2.2.2 | exact hdH.out.2.2.2.2.2.2.2.2.2.1 | exact hdH.out.2.2.2.2.2.2.2.2.2.2 | exact hdH.out.2.2.2.2.2.2.2.2.2.2.1 | exact hdH.out.2.2.2.2.2.2.2.2.2.2.2 | exact hdH.out.2.2.2.2.2.2.2.2.2.2.2.1 | exact hdH.out.2.2.2.2.2.2.2.2.2.2.2.2 | exact hdH.out.2.2.2.2.2.2.2.2.2.2.2.2.1 | exact hdH.out.2.2.2.2.2.2.2.2.2.2.2.2.2 | exact hdH.out.2.2.2.2.2.2.2.2.2.2.2.2.2.1 | exact hdH.out.2.2.2.2.2.2.2.2.2.2.2.2.2.2 | exact hdH.out.2.2.2.2.2.2.2.2.2.2.2.2.2.2.1 | exact hdH.out.2.2.2.2.2.2.2.2.2.2.2.2.2.2.2 | exact hdH.out.2.2.2.2.2.2.2.2.2.2.2.2.2.2.2.1 | exact hdH.out.2.2.2.2.2.2.2.2.2.2.2.2.2.2.2.2)), (fun _ => (by first | exact hdH.out | exact hdH.out.1 | exact hdH.out.2 | exact hdH.out.2.1 | exact hdH.out.2.2 | exact hdH.out.2.2.1 | exact hdH.out.2.2.2 | exact hdH.out.2.2.2.1 | exact hdH.out.2.2.2.2 | exact hdH.out.2.2.2.2.1 | exact hdH.out.2.2.2.2.2 | exact hdH.out.2.2.2.2.2.1 | exact hdH.out.2.2.2.2.2.2 | exact hdH.out.2.2.2.2.2.2.1 | exact hdH.out.2.2.2.2.2.2.2 | exact hdH.out.2.2.2.2.2.2.2.1 | exact hdH.out.2.2.2.2.2.2.2.2 | exact hdH.out.2.2.2.2.2.2.2.2.1 | exact hdH.out.2.2.2.2.2.2.2.2.2 | exact hdH.out.2.2.2.2.2.2.2.2.2.1 | exact hdH.out.2.2.2.2.2.2.2.2.2.2 | exact hdH.out.2.2.2.2.2.2.2.2.2.2.1 | exact hdH.out.2.2.2.2.2.2.2.2.2.2.2 | exact hdH.out.2.2.2.2.2.2.2.2.2.2.2.1 | exact hdH.out.2.2.2.2.2.2.2.2.2.2.2.2 | exact hdH.out.2.2.2.2.2.2.2.2.2.2.2.2.1 | exact hdH.out.2.2.2.2.2.2.2.2.2.2.2.2.2 | exact hdH.out.2.2.2.2.2.2.2.2.2.2.2.2.2.1 | exact hdH.out.2.2.2.2.2.2.2.2.2.2.2.2.2.2 | exact hdH.out.2.2.2.2.2.2.2.2.2.2.2.2.2.2.1 | exact hdH.out.2.2.2.2.2.2.2.2.2.2.2.2.2.2.2 | exact hdH.out.2.2.2.2.2.2.2.2.2.2.2.2.2.2.2.1 | exact hdH.out.2.2.2.2.2.2.2.2.2.2.2.2.2.2.2.2)), (fun _ => (by first | exact hdH.out | exact hdH.out.1 | exact hdH.out.2 | exact hdH.out.2.1 | exact hdH.out.2.2 | exact hdH.out.2.2.1 | exact hdH.out.2.2.2 | exact hdH.out.2.2.2.1 | exact hdH.out.2.2.2.2 | exact hdH.out.2.2.2.2.1 | exact hdH.out.2.2.2.2.2 | exact hdH.out.2.2.2.2.2.1 | exact hdH.out.2.2.2.2.2.2 | exact hdH.out.2.2.2.2.2.2.1 | exact hdH.out.2.2.2.2.2.2.2 | exact hdH.out.2.2.2.2.2.2.2.1 | exact hdH.out.2.2.2.2.2.2.2.2 | exact hdH.out.2.2.2.2.2.2.2.2.1 | exact hdH.out.2.2.2.2.2.2.2.2.2 | exact hdH.out.2.2.2.2.2.2.2.2.2.1 | exact hdH.out.2.2.2.2.2.2.2.2.2.2 | exact hdH.out.2.2.2.2.2.2.2.2.2.2.1 | exact hdH.out.2.2.2.2.2.2.2.2.2.2.2 | exact hdH.out.2.2.2.2.2.2.2.2.2.2.2.1 | exact hdH.out.2.2.2.2.2.2.2.2.2.2.2.2 | exact hdH.out.2.2.2.2.2.2.2.2.2.2.2.2.1 | exact hdH.out.2.2.2.2.2.2.2.2.2.2.2.2.2 | exact hdH.out.2.2.2.2.2.2.2.2.2.2.2.2.2.1 | exact hdH.out.2.2.2.2.2.2.2.2.2.2.2.2.2.2 | exact hdH.out.2.2.2.2.2.2.2.2.2.2.2.2.2.2.1 | exact hdH.out.2.2.2.2.2.2.2.2.2.2.2.2.2.2.2 | exact hdH.out.2.2.2.2.2.2.2.2.2.2.2.2.2.2.2.1 | exact hdH.out.2.2.2.2.2.2.2.2.2.2.2.2.2.2.2.2)), (fun _ => (by first | exact hdH.out | exact hdH.out.1 | exact hdH.out.2 | exact hdH.out.2.1 | exact hdH.out.2.2 | exact hdH.out.2.2.1 | exact hdH.out.2.2.2 | exact hdH.out.2.2.2.1 | exact hdH.out.2.2.2.2 | exact hdH.out.2.2.2.2.1 | exact hdH.out.2.2.2.2.2 | exact hdH.out.2.2.2.2.2.1 | exact hdH.out.2.2.2.2.2.2 | exact hdH.out.2.2.2.2.2.2.1 | exact hdH.out.2.2.2.2.2.2.2 | exact hdH.out.2.2.2.2.2.2.2.1 | exact hdH.out.2.2.2.2.2.2.2.2 | exact hdH.out.2.2.2.2.2.2.2.2.1 | exact hdH.out.2.2.2.2.2.2.2.2.2 | exact hdH.out.2.2.2.2.2.2.2.2.2.1 | exact hdH.out.2.2.2.2.2.2.2.2.2.2 | exact hdH.out.2.2.2.2.2.2.2.2.2.2.1 | exact hdH.out.2.2.2.2.2.2.2.2.2.2.2 | exact hdH.out.2.2.2.2.2.2.2.2.2.2.2.1 | exact hdH.out.2.2.2.2.2.2.2.2.2.2.2.2 | exact hdH.out.2.2.2.2.2.2.2.2.2.2.2.2.1 | exact hdH.out.2.2.2.2.2.2.2.2.2.2.2.2.2 | exact hdH.out.2.2.2.2.2.2.2.2.2.2.2.2.2.1 | exact hdH.out.2.2.2.2.2.2.2.2.2.2.2.2.2.2 | exact hdH.out.2.2.2.2.2.2.2.2.2.2.2.2.2.2.1 | exact hdH.out.2.2.2.2.2.2.2.2.2.2.2.2.2.2.2 | exact hdH.out.2.2.2.2.2.2.2.2.2.2.2.2.2.2.2.1 | exact hdH.out.2.2.2.2.2.2.2.2.2.2.2.2.2.2.2.2)), (k34_31)⟩
    by_cases hie : i = 15
    · subst hie
      obtain rfl := Option.some.inj ho
      simp [Region.binds] at hd
      try (have hdH := Lib.hid hd; clear hd)
      obtain rfl := r38 (by first | exact hdH.out | exact hdH.out.1 | exact hdH.out.2 | exact hdH.out.2.1 | exact hdH.out.2.2 | exact hdH.out.2.2.1 | exact hdH.out.2.2.2 | exact hdH.out.2.2.2.1 | exact hdH.out.2.2.2.2 | exact hdH.out.2.2.2.2.1 | exact hdH.out.2.2.2.2.2 | exact hdH.out.2.2.2.2.2.1 | exact hdH.out.2.2.2.2.2.2 | exact hdH.out.2.2.2.2.2.2.1 | exact hdH.out.2.2.2.2.2.2.2 | exact hdH.out.2.2.2.2.2.2.2.1 | exact hdH.out.2.2.2.2.2.2.2.2 | exact hdH.out.2.2.2.2.2.2.2.2.1 | exact hdH.out.2.2.2.2.2.2.2.2.2 | exact hdH.out.2.2.2.2.2.2.2.2.2.1 | exact hdH.out.2.2.2.2.2.2.2.2.2.2 | exact hdH.out.2.2.2.2.2.2.2.2.2.2.1 | exact hdH.out.2.2.2.2.2.2.2.2.2.2.2 | exact hdH.out.2.2.2.2.2.2.2.2.2.2.2.1 | exact hdH.out.2.2.2.2.2.2.2.2.2.2.2.2 | exact hdH.out.2.2.2.2.2.2.2.2.2.2.2.2.1 | exact hdH.out.2.2.2.2.2.2.2.2.2.2.2.2.2 | exact hdH.out.2.2.2.2.2.2.2.2.2.2.2.2.2.1 | exact hdH.out.2.2.2.2.2.2.2.2.2.2.2.2.2.2 | exact hdH.out.2.2.2.2.2.2.2.2.2.2.2.2.2.2.1 | exact hdH.out.2.2.2.2.2.2.2.2.2.2.2.2.2.2.2 | exact hdH.out.2.2.2.2.2.2.2.2.2.2.2.2.2.2.2.1 | exact hdH.out.2.2.2.2.2.2.2.2.2.2.2.2.2.2.2.2)
      go_simp
      exact hK _ _ ⟨v9, _, v26, v27, v28, v29, v30, v31, v32, v33, v34, v35, v36, v37, _, rfl, hb, (r9), (fun _ => rfl), (r26), (r27), (r28), (r29), (r30), (r31), (r32), (r33), (r34), (r35), (r36), (r37), (fun _ => rfl), (qS), (kb0), (kb1), (kb2), (kb3), (kb4), (kb5), (kb6), (kb7), (kb8), (kb9), (kb10), (kb11), (kb13), (k34_31)⟩
    exact absurd hi (by omega)
  intro L ac w1 hall ⟨v9, v10, v26, v27, v28, v29, v30, v31, v32, v33, v34, v35, v36, v37, v38, ha, hb, r9, r10, r26, r27, r28, r29, r30, r31, r32, r33, r34, r35, r36, r37, r38, qS, kb0, kb1, kb2, kb3, kb4, kb5, kb6, kb7, kb8, kb9, kb10, kb11, kb13, k34_31⟩
  subst ha
  clear r31
  clear r34
  clear r35
  clear k34_31
  clear kb0
  clear kb1
  clear kb2
  clear kb3
  clear kb4
  clear kb5
  clear kb6
  clear kb7
  clear kb8
  clear kb9
  clear kb10
  clear kb11
  clear kb13
  obtain rfl := r10 (hall 15 (by decide))
  clear r10
  obtain rfl := r26 (hall 10 (by decide))
  clear r26
  obtain rfl := r27 (hall 0 (by decide))
  clear r27
  obtain rfl := r28 (hall 1 (by decide))
  clear r28
  obtain rfl := r29 (hall 2 (by decide))
  clear r29
  obtain rfl := r30 (hall 3 (by decide))
  clear r30
  obtain rfl := r32 (hall 5 (by decide))
  clear r32
  obtain rfl := r33 (hall 6 (by decide))
  clear r33
  obtain rfl := r36 (hall 9 (by decide))
  clear r36
  obtain rfl := r37 (hall 11 (by decide))
  clear r37
  obtain rfl := r38 (hall 12 (by decide))
  clear r38
  clear r9
  obtain ⟨b9, rfl, g9, l9, c9, z9⟩ := qS (hall 14 (by decide))
  have c9_0 := c9 0 _ rfl
  have c9_1 := c9 1 _ rfl
  have c9_2 := c9 2 _ rfl
  clear c9 qS
  clear hall L
  have hHeld := hb
  refine wpAnyH_done (by kernel_rfl) ?_ _
  have hb19 := (ho3.below hb).cut (m := 19) (by omega)
  have l19 : (List.take 19 (H ++ d)).length < 20 := by rw [List.length_take]; omega
  replace hW := hW.trans (hb.mono hW.size)
  clear hHeld hsl hbt hbh hT lT HA ho3 c9_0 c9_1 c9_2 z9
  go_wp2_with (fail)
  refine (decode_short _ _ _ hb19 l19).mono ?_
  rintro e w2 ⟨rfl, hb2⟩
  replace hW := hW.trans (hb2.mono hW.size)
  go_wp2_with (fail)
  go_ret
  exact ⟨rfl, hW.alloc hW.size _⟩

set_option maxRecDepth 100000 in
theorem lifted (os : Os) (started : os.Started) (H : Type) (enc : TypeId × Value → H) :
    ReturnsInHanded {} Try.checked os 14 .any (Rows.packetHeadSpec.pre6 enc Try.prog Try.f14 Rows.packetHeadRow.domain false) (Rows.packetHeadSpec.post enc Try.prog Try.f14 false true false false) := by
  refine returnsInHanded_of_change (C := Try.checked) own started (by kernel_rfl) Try.func14
    (ChangeSpec.witness6 (enc := enc) (C := Try.checked) false ⟨#[], #[.agg #[.int .i64 0, .int .i64 0, .int .i64 0, .string ⟨#[]⟩], .int .i64 0, .int .u8 0], []⟩ 8 (by kernel_rfl) (by kernel_rfl) (by kernel_rfl) (by kernel_rfl)) ?_
  intro W base args ds gs before hval0 hW hcnd _
  have hval : ∀ (j : Nat) t v, Try.f14.params[j]? = some t → args[j]? = some v → Value.okWide Try.prog W .any base t v := hval0
  have hW' := hW
  obtain ⟨p, q, hA0, hV, rfl, hfz, hnd⟩ := hW
  have hA : DataW.TrodAll enc Try.prog W 0 (fun _ => true) true Try.f14.params.toList args.toList ds p := hA0
  rw [Try.params14] at hA hval
  obtain ⟨v0, vs0, d0, ds0, p0, q0, hargs, rfl, rfl, h0, r0⟩ := trodAll_cons hA
  obtain ⟨v1, vs1, d1, ds1, p1, q1, rfl, rfl, rfl, h1, r1⟩ := trodAll_cons r0
  obtain ⟨v2, vs2, d2, ds2, p2, q2, rfl, rfl, rfl, h2, r2⟩ := trodAll_cons r1
  obtain ⟨rfl, rfl, rfl⟩ := trodAll_nil r2
  obtain rfl : args = #[v0, v1, v2] := by cases args; simp_all
  obtain ⟨rfl, rfl⟩ := trodVars_none hV
  have k0 := h0
  have lt0 : ∀ x ∈ p0, x.block < W.heap.size := by obtain ⟨m, hm⟩ := k0; exact DataW.trod_lt m _ _ _ hm
  have k1 := h1
  have lt1 : ∀ x ∈ p1, x.block < W.heap.size := by obtain ⟨m, hm⟩ := k1; exact DataW.trod_lt m _ _ _ hm
  have k2 := h2
  have lt2 : ∀ x ∈ p2, x.block < W.heap.size := by obtain ⟨m, hm⟩ := k2; exact DataW.trod_lt m _ _ _ hm
  obtain ⟨rk0, ra0, rb0, rs0, rfl, ok0_0, ok1_0, ok2_0, len0⟩ := open_raw (hval 0 _ v0 rfl rfl) h0
  obtain ⟨n1, rfl, _, _, wn1⟩ := open_int Try.underlying3 (hval 1 _ v1 rfl rfl) h1
  have okn1 := intOk_wf wn1
  obtain ⟨n2, rfl, _, _, wn2⟩ := open_int Try.underlying5 (hval 2 _ v2 rfl rfl) h2
  obtain ⟨y2, rfl⟩ := u8_wf wn2
  clear hA0 hval0
  refine (walk rk0 ra0 rb0 rs0 n1 y2 W ok0_0 ok1_0 ok2_0 len0 okn1).mono fun e W9 ⟨he, bel⟩ => ?_
  subst he
  exact ⟨_, rfl, _, _, _, [], _, [], hW', trodAll_mk1 (shut_bool Try.underlying4 _), (trodAll_cons_mk (Below.trod laidOut (by kernel_rfl) (of_decide_eq_true (by kernel_rfl)) k0 bel lt0) (trodAll_cons_mk (Below.trod laidOut (by kernel_rfl) (of_decide_eq_true (by kernel_rfl)) k1 bel lt1) (trodAll_cons_mk (Below.trod laidOut (by kernel_rfl) (of_decide_eq_true (by kernel_rfl)) k2 bel lt2) trodAll_mk0))), rfl, bel.frame _, fun h => by cases h⟩

theorem over : Rows.packetHeadRow.holds Try.pinned (OpenSpec.ofChange Rows.packetHeadSpec) :=
  OpenClaim.holds_of_wide 14 Try.f14 rfl rfl rfl rfl rfl rfl rfl ⟨rfl, rfl, rfl, rfl, rfl⟩ rfl rfl rfl rfl rfl (by kernel_rfl) Try.func14 (by kernel_rfl)
    (of_decide_eq_true (by kernel_rfl)) (by unfold Func.isWrapper; first | (rw [if_pos (by decide +kernel)]; kernel_rfl) | (rw [if_neg (by decide +kernel)]; exact ⟨rfl, rfl⟩))
    (fun os started H enc _ => lifted os started H enc)

theorem proved : Rows.PacketHeadSaid := over
#print axioms proved
end Go.Proofs.Ytnopdnclefopbaa.packetHead
