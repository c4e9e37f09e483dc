/- packet.Decode: its contract. -/
import Derived.Test.YtnopdnclefopbaaPkb
import Derived.Test.YtnopdnclefopbaaFloat
import Derived.Test.YtnopdnclefopbaaKitd
namespace Go.Proofs.Ytnopdnclefopbaa
open Go.RowKit
set_option linter.unusedVariables false

theorem sliced20 (b off n c : Nat) : sliced (some ⟨b, off, none⟩) 20 n c 1 = .slice (if c = 20 then some (⟨b, off, none⟩ : Addr) else some ⟨b, off + 20, none⟩) (n - 20) (c - 20) := by
  unfold Go.sliced
  congr 1
def DecBad (w : World) (r : Int) (e : Ending) (w' : World) : Prop :=
  e = .returned (.tuple #[.agg #[.int .u32 0, .int .u32 0, .slice none 0 0], .int .i64 r]) ∧ Below w.heap.size w w'
def DecOk (w : World) (src dst : Nat) (d : List UInt8) (e : Ending) (w' : World) : Prop :=
  ∃ p, e = .returned (.tuple #[.agg #[.int .u32 (src : Int), .int .u32 (dst : Int), p], .int .i64 0]) ∧ w'.ownsRow w.heap.size 5 1 p d.length (cells8 d) ∧ Below w.heap.size w w'
/-- What packet.Decode makes of at least 20 bytes. -/
def DecMid (w : World) (l : List UInt8) (e : Ending) (w' : World) : Prop :=
  if pkGood l then DecOk w (pkSrc l) (pkDst l) (l.drop 20) e w' else DecBad w 3 e w'
set_option maxHeartbeats 800000 in
theorem decode_short (v : Value) (l : List UInt8) (w : World) (hb : Bytes w v l) (hl : l.length < 20) :
    Calls Try.prog 32 #[v] w (DecBad w 8) := by
  obtain ⟨a, c, rfl, h2, h3, h4, h5⟩ := hb
  clear h4 h5
  go_enter Try.func32, Try.ntmps32
  go_wp2
  exact bodyPost_ret (v := .tuple #[.agg #[.int .u32 0, .int .u32 0, .slice none 0 0], .int .i64 8]) (by simp [results, Try.results32, go_sem]) rfl ⟨rfl, below_alloc _ _⟩
set_option maxHeartbeats 800000 in
theorem decode_long (v : Value) (l : List UInt8) (w : World) (hb : Bytes w v l) (hl : 220 < l.length) :
    Calls Try.prog 32 #[v] w (DecBad w 1) := by
  obtain ⟨a, c, rfl, h2, h3, h4, h5⟩ := hb
  clear h4 h5
  go_enter Try.func32, Try.ntmps32
  go_wp2
  exact bodyPost_ret (v := .tuple #[.agg #[.int .u32 0, .int .u32 0, .slice none 0 0], .int .i64 1]) (by simp [results, Try.results32, go_sem]) rfl ⟨rfl, below_alloc _ _⟩
set_option maxRecDepth 100000 in
set_option maxHeartbeats 1600000 in
theorem decode_mid (v : Value) (l : List UInt8) (w : World) (hb : Bytes w v l) (h20 : 20 ≤ l.length) (hl : l.length ≤ 220) :
    Calls Try.prog 32 #[v] w (DecMid w l) := by
  have HB := Lib.hid hb
  obtain ⟨a, c, rfl, h2, h3, h4, h5⟩ := hb
  obtain ⟨b, off, rfl, hbl, hc⟩ := h5 (by omega)
  have cell : ∀ k, k < l.length → w.cell? ⟨b, off + k, none⟩ = some (c8 (l.getD k 0)) := fun k hk => by
    rw [hc k _ (List.getElem?_eq_getElem hk)]; simp [List.getD_eq_getElem?_getD, List.getElem?_eq_getElem hk]
  have k12 := cell 12 (by omega)
  have k13 := cell 13 (by omega)
  have k14 := cell 14 (by omega)
  have k15 := cell 15 (by omega)
  have k16 := cell 16 (by omega)
  have k17 := cell 17 (by omega)
  have k18 := cell 18 (by omega)
  have k19 := cell 19 (by omega)
  have HBd := Lib.hid (fun w1 (h : Below w.heap.size w w1) => (HB.out.below h).sliced (k := 20) (by omega))
  obtain ⟨a20, ha20⟩ : ∃ a20, a20 = (if c = 20 then some (⟨b, off, none⟩ : Addr) else some ⟨b, off + 20, none⟩) := ⟨_, rfl⟩
  have HA := Lib.hid ha20
  clear h4 h5 cell hc ha20
  go_enter Try.func32, Try.ntmps32
  go_wp2_with (fail)
  have hw : Below w.heap.size w (w.alloc (Obj.cells #[.int .u32 0, .int .u32 0, .slice none 0 0] 48)) := ((Below.refl w.heap.size w).alloc (by first | exact Nat.le_refl _ | (simp; done) | (simp; omega)) _)
  have hc0_0 : (w.alloc (Obj.cells #[.int .u32 0, .int .u32 0, .slice none 0 0] 48)).cell? ⟨w.heap.size, 0, none⟩ = some (.int .u32 0) := cell_at (by first | rfl | simp) 0 rfl
  have hc0_1 : (w.alloc (Obj.cells #[.int .u32 0, .int .u32 0, .slice none 0 0] 48)).cell? ⟨w.heap.size, 1, none⟩ = some (.int .u32 0) := cell_at (by first | rfl | simp) 1 rfl
  have hc0_2 : (w.alloc (Obj.cells #[.int .u32 0, .int .u32 0, .slice none 0 0] 48)).cell? ⟨w.heap.size, 2, none⟩ = some (.slice none 0 0) := cell_at (by first | rfl | simp) 2 rfl
  have hs0 : w.heap.size < (w.alloc (Obj.cells #[.int .u32 0, .int .u32 0, .slice none 0 0] 48)).heap.size := by simp <;> omega
  have hz0 : ∀ o, (w.alloc (Obj.cells #[.int .u32 0, .int .u32 0, .slice none 0 0] 48)).frozen? ⟨w.heap.size, o, none⟩ = false := fun o => froz_at (by first | rfl | simp) o
  generalize (w.alloc (Obj.cells #[.int .u32 0, .int .u32 0, .slice none 0 0] 48)) = w0 at *
  have hB : Below w0.heap.size w0 w0 := Below.refl _ _
  go_wp2_with (fail)
  replace k12 := keeps hw k12
  replace k13 := keeps hw k13
  replace k14 := keeps hw k14
  replace k15 := keeps hw k15
  replace k16 := keeps hw k16
  replace k17 := keeps hw k17
  replace k18 := keeps hw k18
  replace k19 := keeps hw k19
  have hsl : ∀ wx : World, Sem.run Try.prog (Instr.slice 33 (.slice (some ⟨b, off, none⟩) l.length c) (some (.int .i64 20)) none none) wx = .ok (.slice a20 (l.length - 20) (c - 20)) wx := fun wx => by
    have h := slice_from8 wx (some ⟨b, off, none⟩) l.length c 20 (by omega)
    rw [sliced20, ← HA.out] at h
    exact h
  have hbd : ∀ w1 : World, Below w0.heap.size w0 w1 → Bytes w1 (.slice a20 (l.length - 20) (c - 20)) (l.drop 20) := fun w1 h => by
    have h1 := HBd.out w1 (hw.trans (h.mono hw.size))
    rw [sliced20, ← HA.out] at h1
    exact h1
  replace hbd := Lib.hid hbd
  have i12 : (12 : Int) ≤ l.length := by omega
  have i16 : (16 : Int) ≤ l.length := by omega
  have i20 : (20 : Int) ≤ l.length := by omega
  have j12 : ¬ c = 12 := by omega
  have j16 : ¬ c = 16 := by omega
  refine wp_region_float (m := 11) (S := fun wS => Below (w0.heap.size) w0 wS) (by kernel_rfl) (by kernel_rfl) (by kernel_rfl) (fun L ac w1 => ∃ v4 v15 v16 v17 v18 v19 v20 v21 v22 v23 v24, ac = { tmps := #[.slice (some ⟨b, off, none⟩) l.length c, undef, .pointer (some ⟨w.heap.size, 0, none⟩), .int .i64 0, v4, undef, undef, .slice (some ⟨b, off, none⟩) l.length c, .int .i64 l.length, .bool (decide ((l.length : Int) < 20)), undef, .slice (some ⟨b, off, none⟩) l.length c, .int .i64 l.length, .bool (decide (220 < (l.length : Int))), undef, v15, v16, v17, v18, v19, v20, v21, v22, v23, v24, undef, undef, undef, undef, undef, undef, undef, undef, undef, undef, undef], defers := [] } ∧ Below w0.heap.size w0 w1 ∧ (L 10 = true → Fresh w0.heap.size w1 v4 [.int .u32 0, .int .u32 0, .slice none 0 0]) ∧ (L 0 = true → v15 = .slice (some ⟨b, off, none⟩) l.length c) ∧ (L 1 = true → v16 = .slice (some ⟨b, off + 12, none⟩) (l.length - 12) (c - 12)) ∧ (L 2 = true → v17 = .int .u32 (pkSrc l)) ∧ (L 3 = true → v18 = .slice (some ⟨b, off, none⟩) l.length c) ∧ (L 4 = true → v19 = .slice (some ⟨b, off + 16, none⟩) (l.length - 16) (c - 16)) ∧ (L 5 = true → v20 = .int .u32 (pkDst l)) ∧ (L 6 = true → v21 = .slice (some ⟨b, off, none⟩) l.length c) ∧ (L 7 = true → v22 = .slice a20 (l.length - 20) (c - 20)) ∧ (L 8 = true → w1.ownsRow w0.heap.size 5 1 v23 (l.drop 20).length (cells8 (l.drop 20))) ∧ (L 9 = true → v24 = .agg #[.int .u32 (pkSrc l), .int .u32 (pkDst l), v23]) ∧ (L 8 = true → L 10 = true → Apart v23 v4) ∧ (L 9 = true → L 8 = true)) ?_ ?_ ?_
  · intro L hL
    refine ⟨undef, undef, undef, undef, undef, undef, undef, undef, undef, undef, undef, rfl, hB.drew, ?_⟩
    simp [hL]
  · intro L ac w1 i o K hi ho hLi hd ⟨v4, v15, v16, v17, v18, v19, v20, v21, v22, v23, v24, ha, hb, r4, r15, r16, r17, r18, r19, r20, r21, r22, r23, r24, e23_4, k24_23⟩ hK
    subst ha
    have hc := (bcell hb).1
    by_cases hie : i = 0
    · subst hie
      obtain rfl := Option.some.inj ho
      simp [Region.binds] at hd
      try (have hdH := Lib.hid hd; clear hd)
      go_simp
      exact hK _ _ ⟨v4, _, v16, v17, v18, v19, v20, v21, v22, v23, v24, rfl, hb, (r4), (fun _ => rfl), (r16), (r17), (r18), (r19), (r20), (r21), (r22), (r23), (r24), (e23_4), (k24_23)⟩
    by_cases hie : i = 1
    · subst hie
      obtain rfl := Option.some.inj ho
      simp [Region.binds] at hd
      try (have hdH := Lib.hid hd; clear hd)
      obtain rfl := r15 (by first | exact hdH.out | exact hdH.out.1 | exact hdH.out.2 | exact hdH.out.2.1 | exact hdH.out.2.2 | exact hdH.out.2.2.1 | exact hdH.out.2.2.2 | exact hdH.out.2.2.2.1 | exact hdH.out.2.2.2.2 | exact hdH.out.2.2.2.2.1 | exact hdH.out.2.2.2.2.2 | exact hdH.out.2.2.2.2.2.1 | exact hdH.out.2.2.2.2.2.2 | exact hdH.out.2.2.2.2.2.2.1 | exact hdH.out.2.2.2.2.2.2.2 | exact hdH.out.2.2.2.2.2.2.2.1 | exact hdH.out.2.2.2.2.2.2.2.2 | exact hdH.out.2.2.2.2.2.2.2.2.1 | exact hdH.out.2.2.2.2.2.2.2.2.2 | exact hdH.out.2.2.2.2.2.2.2.2.2.1 | exact hdH.out.2.2.2.2.2.2.2.2.2.2 | exact hdH.out.2.2.2.2.2.2.2.2.2.2.1 | exact hdH.out.2.2.2.2.2.2.2.2.2.2.2 | exact hdH.out.2.2.2.2.2.2.2.2.2.2.2.1 | exact hdH.out.2.2.2.2.2.2.2.2.2.2.2.2 | exact hdH.out.2.2.2.2.2.2.2.2.2.2.2.2.1 | exact hdH.out.2.2.2.2.2.2.2.2.2.2.2.2.2 | exact hdH.out.2.2.2.2.2.2.2.2.2.2.2.2.2.1 | exact hdH.out.2.2.2.2.2.2.2.2.2.2.2.2.2.2 | exact hdH.out.2.2.2.2.2.2.2.2.2.2.2.2.2.2.1 | exact hdH.out.2.2.2.2.2.2.2.2.2.2.2.2.2.2.2 | exact hdH.out.2.2.2.2.2.2.2.2.2.2.2.2.2.2.2.1 | exact hdH.out.2.2.2.2.2.2.2.2.2.2.2.2.2.2.2.2)
      go_simp
      exact hK _ _ ⟨v4, _, _, v17, v18, v19, v20, v21, v22, v23, v24, rfl, hb, (r4), (fun _ => rfl), (fun _ => rfl), (r17), (r18), (r19), (r20), (r21), (r22), (r23), (r24), (e23_4), (k24_23)⟩
    by_cases hie : i = 2
    · subst hie
      obtain rfl := Option.some.inj ho
      simp [Region.binds] at hd
      try (have hdH := Lib.hid hd; clear hd)
      obtain rfl := r16 (by first | exact hdH.out | exact hdH.out.1 | exact hdH.out.2 | exact hdH.out.2.1 | exact hdH.out.2.2 | exact hdH.out.2.2.1 | exact hdH.out.2.2.2 | exact hdH.out.2.2.2.1 | exact hdH.out.2.2.2.2 | exact hdH.out.2.2.2.2.1 | exact hdH.out.2.2.2.2.2 | exact hdH.out.2.2.2.2.2.1 | exact hdH.out.2.2.2.2.2.2 | exact hdH.out.2.2.2.2.2.2.1 | exact hdH.out.2.2.2.2.2.2.2 | exact hdH.out.2.2.2.2.2.2.2.1 | exact hdH.out.2.2.2.2.2.2.2.2 | exact hdH.out.2.2.2.2.2.2.2.2.1 | exact hdH.out.2.2.2.2.2.2.2.2.2 | exact hdH.out.2.2.2.2.2.2.2.2.2.1 | exact hdH.out.2.2.2.2.2.2.2.2.2.2 | exact hdH.out.2.2.2.2.2.2.2.2.2.2.1 | exact hdH.out.2.2.2.2.2.2.2.2.2.2.2 | exact hdH.out.2.2.2.2.2.2.2.2.2.2.2.1 | exact hdH.out.2.2.2.2.2.2.2.2.2.2.2.2 | exact hdH.out.2.2.2.2.2.2.2.2.2.2.2.2.1 | exact hdH.out.2.2.2.2.2.2.2.2.2.2.2.2.2 | exact hdH.out.2.2.2.2.2.2.2.2.2.2.2.2.2.1 | exact hdH.out.2.2.2.2.2.2.2.2.2.2.2.2.2.2 | exact hdH.out.2.2.2.2.2.2.2.2.2.2.2.2.2.2.1 | exact hdH.out.2.2.2.2.2.2.2.2.2.2.2.2.2.2.2 | exact hdH.out.2.2.2.2.2.2.2.2.2.2.2.2.2.2.2.1 | exact hdH.out.2.2.2.2.2.2.2.2.2.2.2.2.2.2.2.2)
      go_simp
      go_at_call 57; (with_reducible refine (address_calls b (off + 12) _ _ _ _ _ _ _ (by omega) (keeps hb k12) (keeps hb k13) (keeps hb k14) (keeps hb k15)).mono ?_); rintro e w2 ⟨rfl, hb2⟩
      exact hK _ _ ⟨v4, v15, _, _, v18, v19, v20, v21, v22, v23, v24, rfl, below_step hb hb2, (fun h => (r4 h).below hb2), (r15), (fun _ => rfl), (fun _ => rfl), (r18), (r19), (r20), (r21), (r22), (fun h => owns_below (r23 h) hb2), (r24), (e23_4), (k24_23)⟩
    by_cases hie : i = 3
    · subst hie
      obtain rfl := Option.some.inj ho
      simp [Region.binds] at hd
      try (have hdH := Lib.hid hd; clear hd)
      go_simp
      exact hK _ _ ⟨v4, v15, v16, v17, _, v19, v20, v21, v22, v23, v24, rfl, hb, (r4), (r15), (r16), (r17), (fun _ => rfl), (r19), (r20), (r21), (r22), (r23), (r24), (e23_4), (k24_23)⟩
    by_cases hie : i = 4
    · subst hie
      obtain rfl := Option.some.inj ho
      simp [Region.binds] at hd
      try (have hdH := Lib.hid hd; clear hd)
      obtain rfl := r18 (by first | exact hdH.out | exact hdH.out.1 | exact hdH.out.2 | exact hdH.out.2.1 | exact hdH.out.2.2 | exact hdH.out.2.2.1 | exact hdH.out.2.2.2 | exact hdH.out.2.2.2.1 | exact hdH.out.2.2.2.2 | exact hdH.out.2.2.2.2.1 | exact hdH.out.2.2.2.2.2 | exact hdH.out.2.2.2.2.2.1 | exact hdH.out.2.2.2.2.2.2 | exact hdH.out.2.2.2.2.2.2.1 | exact hdH.out.2.2.2.2.2.2.2 | exact hdH.out.2.2.2.2.2.2.2.1 | exact hdH.out.2.2.2.2.2.2.2.2 | exact hdH.out.2.2.2.2.2.2.2.2.1 | exact hdH.out.2.2.2.2.2.2.2.2.2 | exact hdH.out.2.2.2.2.2.2.2.2.2.1 | exact hdH.out.2.2.2.2.2.2.2.2.2.2 | exact hdH.out.2.2.2.2.2.2.2.2.2.2.1 | exact hdH.out.2.2.2.2.2.2.2.2.2.2.2 | exact hdH.out.2.2.2.2.2.2.2.2.2.2.2.1 | exact hdH.out.2.2.2.2.2.2.2.2.2.2.2.2 | exact hdH.out.2.2.2.2.2.2.2.2.2.2.2.2.1 | exact hdH.out.2.2.2.2.2.2.2.2.2.2.2.2.2 | exact hdH.out.2.2.2.2.2.2.2.2.2.2.2.2.2.1 | exact hdH.out.2.2.2.2.2.2.2.2.2.2.2.2.2.2 | exact hdH.out.2.2.2.2.2.2.2.2.2.2.2.2.2.2.1 | exact hdH.out.2.2.2.2.2.2.2.2.2.2.2.2.2.2.2 | exact hdH.out.2.2.2.2.2.2.2.2.2.2.2.2.2.2.2.1 | exact hdH.out.2.2.2.2.2.2.2.2.2.2.2.2.2.2.2.2)
      go_simp
      exact hK _ _ ⟨v4, v15, v16, v17, _, _, v20, v21, v22, v23, v24, rfl, hb, (r4), (r15), (r16), (r17), (fun _ => rfl), (fun _ => rfl), (r20), (r21), (r22), (r23), (r24), (e23_4), (k24_23)⟩
    by_cases hie : i = 5
    · subst hie
      obtain rfl := Option.some.inj ho
      simp [Region.binds] at hd
      try (have hdH := Lib.hid hd; clear hd)
      obtain rfl := r17 (by first | exact hdH.out | exact hdH.out.1 | exact hdH.out.2 | exact hdH.out.2.1 | exact hdH.out.2.2 | exact hdH.out.2.2.1 | exact hdH.out.2.2.2 | exact hdH.out.2.2.2.1 | exact hdH.out.2.2.2.2 | exact hdH.out.2.2.2.2.1 | exact hdH.out.2.2.2.2.2 | exact hdH.out.2.2.2.2.2.1 | exact hdH.out.2.2.2.2.2.2 | exact hdH.out.2.2.2.2.2.2.1 | exact hdH.out.2.2.2.2.2.2.2 | exact hdH.out.2.2.2.2.2.2.2.1 | exact hdH.out.2.2.2.2.2.2.2.2 | exact hdH.out.2.2.2.2.2.2.2.2.1 | exact hdH.out.2.2.2.2.2.2.2.2.2 | exact hdH.out.2.2.2.2.2.2.2.2.2.1 | exact hdH.out.2.2.2.2.2.2.2.2.2.2 | exact hdH.out.2.2.2.2.2.2.2.2.2.2.1 | exact hdH.out.2.2.2.2.2.2.2.2.2.2.2 | exact hdH.out.2.2.2.2.2.2.2.2.2.2.2.1 | exact hdH.out.2.2.2.2.2.2.2.2.2.2.2.2 | exact hdH.out.2.2.2.2.2.2.2.2.2.2.2.2.1 | exact hdH.out.2.2.2.2.2.2.2.2.2.2.2.2.2 | exact hdH.out.2.2.2.2.2.2.2.2.2.2.2.2.2.1 | exact hdH.out.2.2.2.2.2.2.2.2.2.2.2.2.2.2 | exact hdH.out.2.2.2.2.2.2.2.2.2.2.2.2.2.2.1 | exact hdH.out.2.2.2.2.2.2.2.2.2.2.2.2.2.2.2 | exact hdH.out.2.2.2.2.2.2.2.2.2.2.2.2.2.2.2.1 | exact hdH.out.2.2.2.2.2.2.2.2.2.2.2.2.2.2.2.2)
      obtain rfl := r19 (by first | exact hdH.out | exact hdH.out.1 | exact hdH.out.2 | exact hdH.out.2.1 | exact hdH.out.2.2 | exact hdH.out.2.2.1 | exact hdH.out.2.2.2 | exact hdH.out.2.2.2.1 | exact hdH.out.2.2.2.2 | exact hdH.out.2.2.2.2.1 | exact hdH.out.2.2.2.2.2 | exact hdH.out.2.2.2.2.2.1 | exact hdH.out.2.2.2.2.2.2 | exact hdH.out.2.2.2.2.2.2.1 | exact hdH.out.2.2.2.2.2.2.2 | exact hdH.out.2.2.2.2.2.2.2.1 | exact hdH.out.2.2.2.2.2.2.2.2 | exact hdH.out.2.2.2.2.2.2.2.2.1 | exact hdH.out.2.2.2.2.2.2.2.2.2 | exact hdH.out.2.2.2.2.2.2.2.2.2.1 | exact hdH.out.2.2.2.2.2.2.2.2.2.2 | exact hdH.out.2.2.2.2.2.2.2.2.2.2.1 | exact hdH.out.2.2.2.2.2.2.2.2.2.2.2 | exact hdH.out.2.2.2.2.2.2.2.2.2.2.2.1 | exact hdH.out.2.2.2.2.2.2.2.2.2.2.2.2 | exact hdH.out.2.2.2.2.2.2.2.2.2.2.2.2.1 | exact hdH.out.2.2.2.2.2.2.2.2.2.2.2.2.2 | exact hdH.out.2.2.2.2.2.2.2.2.2.2.2.2.2.1 | exact hdH.out.2.2.2.2.2.2.2.2.2.2.2.2.2.2 | exact hdH.out.2.2.2.2.2.2.2.2.2.2.2.2.2.2.1 | exact hdH.out.2.2.2.2.2.2.2.2.2.2.2.2.2.2.2 | exact hdH.out.2.2.2.2.2.2.2.2.2.2.2.2.2.2.2.1 | exact hdH.out.2.2.2.2.2.2.2.2.2.2.2.2.2.2.2.2)
      go_simp
      go_at_call 57; (with_reducible refine (address_calls b (off + 16) _ _ _ _ _ _ _ (by omega) (keeps hb k16) (keeps hb k17) (keeps hb k18) (keeps hb k19)).mono ?_); rintro e w2 ⟨rfl, hb2⟩
      exact hK _ _ ⟨v4, v15, v16, _, v18, _, _, v21, v22, v23, v24, rfl, below_step hb hb2, (fun h => (r4 h).below hb2), (r15), (r16), (fun _ => rfl), (r18), (fun _ => rfl), (fun _ => rfl), (r21), (r22), (fun h => owns_below (r23 h) hb2), (r24), (e23_4), (k24_23)⟩
    by_cases hie : i = 6
    · subst hie
      obtain rfl := Option.some.inj ho
      simp [Region.binds] at hd
      try (have hdH := Lib.hid hd; clear hd)
      go_simp
      exact hK _ _ ⟨v4, v15, v16, v17, v18, v19, v20, _, v22, v23, v24, rfl, hb, (r4), (r15), (r16), (r17), (r18), (r19), (r20), (fun _ => rfl), (r22), (r23), (r24), (e23_4), (k24_23)⟩
    by_cases hie : i = 7
    · subst hie
      obtain rfl := Option.some.inj ho
      simp [Region.binds] at hd
      try (have hdH := Lib.hid hd; clear hd)
      obtain rfl := r21 (by first | exact hdH.out | exact hdH.out.1 | exact hdH.out.2 | exact hdH.out.2.1 | exact hdH.out.2.2 | exact hdH.out.2.2.1 | exact hdH.out.2.2.2 | exact hdH.out.2.2.2.1 | exact hdH.out.2.2.2.2 | exact hdH.out.2.2.2.2.1 | exact hdH.out.2.2.2.2.2 | exact hdH.out.2.2.2.2.2.1 | exact hdH.out.2.2.2.2.2.2 | exact hdH.out.2.2.2.2.2.2.1 | exact hdH.out.2.2.2.2.2.2.2 | exact hdH.out.2.2.2.2.2.2.2.1 | exact hdH.out.2.2.2.2.2.2.2.2 | exact hdH.out.2.2.2.2.2.2.2.2.1 | exact hdH.out.2.2.2.2.2.2.2.2.2 | exact hdH.out.2.2.2.2.2.2.2.2.2.1 | exact hdH.out.2.2.2.2.2.2.2.2.2.2 | exact hdH.out.2.2.2.2.2.2.2.2.2.2.1 | exact hdH.out.2.2.2.2.2.2.2.2.2.2.2 | exact hdH.out.2.2.2.2.2.2.2.2.2.2.2.1 | exact hdH.out.2.2.2.2.2.2.2.2.2.2.2.2 | exact hdH.out.2.2.2.2.2.2.2.2.2.2.2.2.1 | exact hdH.out.2.2.2.2.2.2.2.2.2.2.2.2.2 | exact hdH.out.2.2.2.2.2.2.2.2.2.2.2.2.2.1 | exact hdH.out.2.2.2.2.2.2.2.2.2.2.2.2.2.2 | exact hdH.out.2.2.2.2.2.2.2.2.2.2.2.2.2.2.1 | exact hdH.out.2.2.2.2.2.2.2.2.2.2.2.2.2.2.2 | exact hdH.out.2.2.2.2.2.2.2.2.2.2.2.2.2.2.2.1 | exact hdH.out.2.2.2.2.2.2.2.2.2.2.2.2.2.2.2.2)
      go_simp
      exact hK _ _ ⟨v4, v15, v16, v17, v18, v19, v20, _, _, v23, v24, rfl, hb, (r4), (r15), (r16), (r17), (r18), (r19), (r20), (fun _ => rfl), (fun _ => rfl), (r23), (r24), (e23_4), (k24_23)⟩
    by_cases hie : i = 8
    · subst hie
      obtain rfl := Option.some.inj ho
      simp [Region.binds] at hd
      try (have hdH := Lib.hid hd; clear hd)
      obtain rfl := r20 (by first | exact hdH.out | exact hdH.out.1 | exact hdH.out.2 | exact hdH.out.2.1 | exact hdH.out.2.2 | exact hdH.out.2.2.1 | exact hdH.out.2.2.2 | exact hdH.out.2.2.2.1 | exact hdH.out.2.2.2.2 | exact hdH.out.2.2.2.2.1 | exact hdH.out.2.2.2.2.2 | exact hdH.out.2.2.2.2.2.1 | exact hdH.out.2.2.2.2.2.2 | exact hdH.out.2.2.2.2.2.2.1 | exact hdH.out.2.2.2.2.2.2.2 | exact hdH.out.2.2.2.2.2.2.2.1 | exact hdH.out.2.2.2.2.2.2.2.2 | exact hdH.out.2.2.2.2.2.2.2.2.1 | exact hdH.out.2.2.2.2.2.2.2.2.2 | exact hdH.out.2.2.2.2.2.2.2.2.2.1 | exact hdH.out.2.2.2.2.2.2.2.2.2.2 | exact hdH.out.2.2.2.2.2.2.2.2.2.2.1 | exact hdH.out.2.2.2.2.2.2.2.2.2.2.2 | exact hdH.out.2.2.2.2.2.2.2.2.2.2.2.1 | exact hdH.out.2.2.2.2.2.2.2.2.2.2.2.2 | exact hdH.out.2.2.2.2.2.2.2.2.2.2.2.2.1 | exact hdH.out.2.2.2.2.2.2.2.2.2.2.2.2.2 | exact hdH.out.2.2.2.2.2.2.2.2.2.2.2.2.2.1 | exact hdH.out.2.2.2.2.2.2.2.2.2.2.2.2.2.2 | exact hdH.out.2.2.2.2.2.2.2.2.2.2.2.2.2.2.1 | exact hdH.out.2.2.2.2.2.2.2.2.2.2.2.2.2.2.2 | exact hdH.out.2.2.2.2.2.2.2.2.2.2.2.2.2.2.2.1 | exact hdH.out.2.2.2.2.2.2.2.2.2.2.2.2.2.2.2.2)
      obtain rfl := r22 (by first | exact hdH.out | exact hdH.out.1 | exact hdH.out.2 | exact hdH.out.2.1 | exact hdH.out.2.2 | exact hdH.out.2.2.1 | exact hdH.out.2.2.2 | exact hdH.out.2.2.2.1 | exact hdH.out.2.2.2.2 | exact hdH.out.2.2.2.2.1 | exact hdH.out.2.2.2.2.2 | exact hdH.out.2.2.2.2.2.1 | exact hdH.out.2.2.2.2.2.2 | exact hdH.out.2.2.2.2.2.2.1 | exact hdH.out.2.2.2.2.2.2.2 | exact hdH.out.2.2.2.2.2.2.2.1 | exact hdH.out.2.2.2.2.2.2.2.2 | exact hdH.out.2.2.2.2.2.2.2.2.1 | exact hdH.out.2.2.2.2.2.2.2.2.2 | exact hdH.out.2.2.2.2.2.2.2.2.2.1 | exact hdH.out.2.2.2.2.2.2.2.2.2.2 | exact hdH.out.2.2.2.2.2.2.2.2.2.2.1 | exact hdH.out.2.2.2.2.2.2.2.2.2.2.2 | exact hdH.out.2.2.2.2.2.2.2.2.2.2.2.1 | exact hdH.out.2.2.2.2.2.2.2.2.2.2.2.2 | exact hdH.out.2.2.2.2.2.2.2.2.2.2.2.2.1 | exact hdH.out.2.2.2.2.2.2.2.2.2.2.2.2.2 | exact hdH.out.2.2.2.2.2.2.2.2.2.2.2.2.2.1 | exact hdH.out.2.2.2.2.2.2.2.2.2.2.2.2.2.2 | exact hdH.out.2.2.2.2.2.2.2.2.2.2.2.2.2.2.1 | exact hdH.out.2.2.2.2.2.2.2.2.2.2.2.2.2.2.2 | exact hdH.out.2.2.2.2.2.2.2.2.2.2.2.2.2.2.2.1 | exact hdH.out.2.2.2.2.2.2.2.2.2.2.2.2.2.2.2.2)
      go_simp
      go_at_call 56; (with_reducible refine (bytesClone_calls _ _ _ (hbd.out _ hb) (by rw [List.length_drop]; omega)).mono ?_); rintro e w2 ⟨p, rfl, ho, hb2⟩
      exact hK _ _ ⟨v4, v15, v16, v17, v18, v19, _, v21, _, _, v24, rfl, below_step hb hb2, (fun h => (r4 h).below hb2), (r15), (r16), (r17), (r18), (r19), (fun _ => rfl), (r21), (fun _ => rfl), (fun _ => owns_base ho hb.size), (fun h => absurd (k24_23 h) (by simp [hLi])), (fun _ h => owns_apart_old ho (r4 h)), (fun _ => rfl)⟩
    by_cases hie : i = 9
    · subst hie
      obtain rfl := Option.some.inj ho
      simp [Region.binds] at hd
      try (have hdH := Lib.hid hd; clear hd)
      obtain rfl := r17 (by first | exact hdH.out | exact hdH.out.1 | exact hdH.out.2 | exact hdH.out.2.1 | exact hdH.out.2.2 | exact hdH.out.2.2.1 | exact hdH.out.2.2.2 | exact hdH.out.2.2.2.1 | exact hdH.out.2.2.2.2 | exact hdH.out.2.2.2.2.1 | exact hdH.out.2.2.2.2.2 | exact hdH.out.2.2.2.2.2.1 | exact hdH.out.2.2.2.2.2.2 | exact hdH.out.2.2.2.2.2.2.1 | exact hdH.out.2.2.2.2.2.2.2 | exact hdH.out.2.2.2.2.2.2.2.1 | exact hdH.out.2.2.2.2.2.2.2.2 | exact hdH.out.2.2.2.2.2.2.2.2.1 | exact hdH.out.2.2.2.2.2.2.2.2.2 | exact hdH.out.2.2.2.2.2.2.2.2.2.1 | exact hdH.out.2.2.2.2.2.2.2.2.2.2 | exact hdH.out.2.2.2.2.2.2.2.2.2.2.1 | exact hdH.out.2.2.2.2.2.2.2.2.2.2.2 | exact hdH.out.2.2.2.2.2.2.2.2.2.2.2.1 | exact hdH.out.2.2.2.2.2.2.2.2.2.2.2.2 | exact hdH.out.2.2.2.2.2.2.2.2.2.2.2.2.1 | exact hdH.out.2.2.2.2.2.2.2.2.2.2.2.2.2 | exact hdH.out.2.2.2.2.2.2.2.2.2.2.2.2.2.1 | exact hdH.out.2.2.2.2.2.2.2.2.2.2.2.2.2.2 | exact hdH.out.2.2.2.2.2.2.2.2.2.2.2.2.2.2.1 | exact hdH.out.2.2.2.2.2.2.2.2.2.2.2.2.2.2.2 | exact hdH.out.2.2.2.2.2.2.2.2.2.2.2.2.2.2.2.1 | exact hdH.out.2.2.2.2.2.2.2.2.2.2.2.2.2.2.2.2)
      obtain rfl := r20 (by first | exact hdH.out | exact hdH.out.1 | exact hdH.out.2 | exact hdH.out.2.1 | exact hdH.out.2.2 | exact hdH.out.2.2.1 | exact hdH.out.2.2.2 | exact hdH.out.2.2.2.1 | exact hdH.out.2.2.2.2 | exact hdH.out.2.2.2.2.1 | exact hdH.out.2.2.2.2.2 | exact hdH.out.2.2.2.2.2.1 | exact hdH.out.2.2.2.2.2.2 | exact hdH.out.2.2.2.2.2.2.1 | exact hdH.out.2.2.2.2.2.2.2 | exact hdH.out.2.2.2.2.2.2.2.1 | exact hdH.out.2.2.2.2.2.2.2.2 | exact hdH.out.2.2.2.2.2.2.2.2.1 | exact hdH.out.2.2.2.2.2.2.2.2.2 | exact hdH.out.2.2.2.2.2.2.2.2.2.1 | exact hdH.out.2.2.2.2.2.2.2.2.2.2 | exact hdH.out.2.2.2.2.2.2.2.2.2.2.1 | exact hdH.out.2.2.2.2.2.2.2.2.2.2.2 | exact hdH.out.2.2.2.2.2.2.2.2.2.2.2.1 | exact hdH.out.2.2.2.2.2.2.2.2.2.2.2.2 | exact hdH.out.2.2.2.2.2.2.2.2.2.2.2.2.1 | exact hdH.out.2.2.2.2.2.2.2.2.2.2.2.2.2 | exact hdH.out.2.2.2.2.2.2.2.2.2.2.2.2.2.1 | exact hdH.out.2.2.2.2.2.2.2.2.2.2.2.2.2.2 | exact hdH.out.2.2.2.2.2.2.2.2.2.2.2.2.2.2.1 | exact hdH.out.2.2.2.2.2.2.2.2.2.2.2.2.2.2.2 | exact hdH.out.2.2.2.2.2.2.2.2.2.2.2.2.2.2.2.1 | exact hdH.out.2.2.2.2.2.2.2.2.2.2.2.2.2.2.2.2)
      obtain ⟨_, _, _, rfl⟩ := owns_slice (r23 (by first | exact hdH.out | exact hdH.out.1 | exact hdH.out.2 | exact hdH.out.2.1 | exact hdH.out.2.2 | exact hdH.out.2.2.1 | exact hdH.out.2.2.2 | exact hdH.out.2.2.2.1 | exact hdH.out.2.2.2.2 | exact hdH.out.2.2.2.2.1 | exact hdH.out.2.2.2.2.2 | exact hdH.out.2.2.2.2.2.1 | exact hdH.out.2.2.2.2.2.2 | exact hdH.out.2.2.2.2.2.2.1 | exact hdH.out.2.2.2.2.2.2.2 | exact hdH.out.2.2.2.2.2.2.2.1 | exact hdH.out.2.2.2.2.2.2.2.2 | exact hdH.out.2.2.2.2.2.2.2.2.1 | exact hdH.out.2.2.2.2.2.2.2.2.2 | exact hdH.out.2.2.2.2.2.2.2.2.2.1 | exact hdH.out.2.2.2.2.2.2.2.2.2.2 | exact hdH.out.2.2.2.2.2.2.2.2.2.2.1 | exact hdH.out.2.2.2.2.2.2.2.2.2.2.2 | exact hdH.out.2.2.2.2.2.2.2.2.2.2.2.1 | exact hdH.out.2.2.2.2.2.2.2.2.2.2.2.2 | exact hdH.out.2.2.2.2.2.2.2.2.2.2.2.2.1 | exact hdH.out.2.2.2.2.2.2.2.2.2.2.2.2.2 | exact hdH.out.2.2.2.2.2.2.2.2.2.2.2.2.2.1 | exact hdH.out.2.2.2.2.2.2.2.2.2.2.2.2.2.2 | exact hdH.out.2.2.2.2.2.2.2.2.2.2.2.2.2.2.1 | exact hdH.out.2.2.2.2.2.2.2.2.2.2.2.2.2.2.2 | exact hdH.out.2.2.2.2.2.2.2.2.2.2.2.2.2.2.2.1 | exact hdH.out.2.2.2.2.2.2.2.2.2.2.2.2.2.2.2.2))
      go_simp
      exact hK _ _ ⟨v4, v15, v16, _, v18, v19, _, v21, v22, _, _, rfl, hb, (r4), (r15), (r16), (fun _ => rfl), (r18), (r19), (fun _ => rfl), (r21), (r22), (r23), (fun _ => rfl), (e23_4), (fun _ => (by first | exact hdH.out | exact hdH.out.1 | exact hdH.out.2 | exact hdH.out.2.1 | exact hdH.out.2.2 | exact hdH.out.2.2.1 | exact hdH.out.2.2.2 | exact hdH.out.2.2.2.1 | exact hdH.out.2.2.2.2 | exact hdH.out.2.2.2.2.1 | exact hdH.out.2.2.2.2.2 | exact hdH.out.2.2.2.2.2.1 | exact hdH.out.2.2.2.2.2.2 | exact hdH.out.2.2.2.2.2.2.1 | exact hdH.out.2.2.2.2.2.2.2 | exact hdH.out.2.2.2.2.2.2.2.1 | exact hdH.out.2.2.2.2.2.2.2.2 | exact hdH.out.2.2.2.2.2.2.2.2.1 | exact hdH.out.2.2.2.2.2.2.2.2.2 | exact hdH.out.2.2.2.2.2.2.2.2.2.1 | exact hdH.out.2.2.2.2.2.2.2.2.2.2 | exact hdH.out.2.2.2.2.2.2.2.2.2.2.1 | exact hdH.out.2.2.2.2.2.2.2.2.2.2.2 | exact hdH.out.2.2.2.2.2.2.2.2.2.2.2.1 | exact hdH.out.2.2.2.2.2.2.2.2.2.2.2.2 | exact hdH.out.2.2.2.2.2.2.2.2.2.2.2.2.1 | exact hdH.out.2.2.2.2.2.2.2.2.2.2.2.2.2 | exact hdH.out.2.2.2.2.2.2.2.2.2.2.2.2.2.1 | exact hdH.out.2.2.2.2.2.2.2.2.2.2.2.2.2.2 | exact hdH.out.2.2.2.2.2.2.2.2.2.2.2.2.2.2.1 | exact hdH.out.2.2.2.2.2.2.2.2.2.2.2.2.2.2.2 | exact hdH.out.2.2.2.2.2.2.2.2.2.2.2.2.2.2.2.1 | exact hdH.out.2.2.2.2.2.2.2.2.2.2.2.2.2.2.2.2))⟩
    by_cases hie : i = 10
    · subst hie
      obtain rfl := Option.some.inj ho
      simp [Region.binds] at hd
      try (have hdH := Lib.hid hd; clear hd)
      go_simp
      exact hK _ _ ⟨_, v15, v16, v17, v18, v19, v20, v21, v22, v23, v24, rfl, hb.alloc hb.size _, (fun _ => Fresh.made _ _ hb.size), (r15), (r16), (r17), (r18), (r19), (r20), (r21), (r22), (fun h => owns_below (r23 h) (below_alloc _ _)), (r24), (fun h _ => owns_apart_new (r23 h)), (k24_23)⟩
    exact absurd hi (by omega)
  intro L ac w1 hall ⟨v4, v15, v16, v17, v18, v19, v20, v21, v22, v23, v24, ha, hb, r4, r15, r16, r17, r18, r19, r20, r21, r22, r23, r24, e23_4, k24_23⟩
  subst ha
  have n23 := r23 (hall 8 (by decide))
  clear r23
  clear k24_23
  have ap23_4 := e23_4 (hall 8 (by decide)) (hall 10 (by decide))
  clear e23_4
  obtain rfl := r15 (hall 0 (by decide))
  clear r15
  obtain rfl := r16 (hall 1 (by decide))
  clear r16
  obtain rfl := r17 (hall 2 (by decide))
  clear r17
  obtain rfl := r18 (hall 3 (by decide))
  clear r18
  obtain rfl := r19 (hall 4 (by decide))
  clear r19
  obtain rfl := r20 (hall 5 (by decide))
  clear r20
  obtain rfl := r21 (hall 6 (by decide))
  clear r21
  obtain rfl := r22 (hall 7 (by decide))
  clear r22
  obtain rfl := r24 (hall 9 (by decide))
  clear r24
  obtain ⟨b4, rfl, g4, l4, c4, z4⟩ := r4 (hall 10 (by decide))
  have c4_0 := c4 0 _ rfl
  have c4_1 := c4 1 _ rfl
  have c4_2 := c4 2 _ rfl
  clear c4 r4
  clear hall L
  have hHeld := hb
  obtain ⟨a23, m23, c23, rfl⟩ := owns_slice n23
  refine H_one (i := 11) (by kernel_rfl) rfl (fun K hK => ?_)
  go_simp
  skip
  refine hK.out _ _ (by (try dsimp only); exact ((hb.setCell g4 _).setCell g4 _).setCell g4 _) (fun hHeld => ?_)
  clear hK K
  try simp only [Act.put, List.setIfInBounds_toArray, List.set, List.getElem_toArray, List.getElem_cons_zero, List.getElem_cons_succ]
  obtain ⟨w2, hew2, hxw2, how2, hfw2, hnw2, hkw2⟩ := stored (w := w1) (b := b4) [.int .u32 (pkSrc l : Int), .int .u32 (pkDst l : Int), .slice a23 m23 c23] (by intro i hi; match i, hi with | 0, _ => exact Option.isSome_iff_exists.2 ⟨_, c4_0⟩ | 1, _ => exact Option.isSome_iff_exists.2 ⟨_, c4_1⟩ | 2, _ => exact Option.isSome_iff_exists.2 ⟨_, c4_2⟩) 
  have hew2 : (((w1.setCell ⟨b4, 0, none⟩ (.int .u32 (pkSrc l : Int))).setCell ⟨b4, 1, none⟩ (.int .u32 (pkDst l : Int))).setCell ⟨b4, 2, none⟩ (.slice a23 m23 c23)) = w2 := hew2
  rw [hew2]
  clear hew2
  have c4_0 := hxw2 0 _ rfl
  have c4_1 := hxw2 1 _ rfl
  have c4_2 := hxw2 2 _ rfl
  have z4 := fun o => (hfw2 b4 o).trans (z4 o)
  have l4 : b4 < w2.heap.size := by rw [hnw2]; exact l4
  refine wpAnyH_done (by kernel_rfl) ?_ _
  have n23 := owns_stored n23 ap23_4 hew2
  have hB2 := hkw2 _ _ g4 hb
  have hW2 := hw.trans (hB2.mono hw.size)
  have r0 := keeps hB2 hc0_0
  have r1 := keeps hB2 hc0_1
  have r2 := keeps hB2 hc0_2
  have y0 := fun o => keepsF hB2 hs0 (hz0 o)
  have hs2 := Nat.lt_of_lt_of_le hs0 hB2.size
  have HB2 := HB.out.below hW2
  clear hew2 hxw2 how2 hfw2 hnw2 hkw2 hb hHeld k12 k13 k14 k15 k16 k17 k18 k19 hsl hbd i12 i16 i20 j12 j16 hc0_0 hc0_1 hc0_2 hz0 hB ap23_4
  have n23B := owns_bytes n23
  have hE := Lib.hid (show (List.drop 20 l).length ≤ 200 by rw [List.length_drop]; omega)
  obtain ⟨g, hg⟩ : ∃ g, g = (pkEnc (pkSrc l) (pkDst l) (List.drop 20 l) == l) := ⟨_, rfl⟩
  have G := Lib.hid hg
  clear hg
  cases g
  · have hbad : ¬ pkGood l := fun h => by
      have := G.out
      unfold pkGood at h
      rw [h] at this
      simp at this
    go_wp2_with (first | (go_at_call 31; (with_reducible refine (encode_ok _ _ _ _ _ (pkSrc_lt l) (pkDst_lt l) n23B hE.out).mono ?_); rintro e w3 ⟨p3, rfl, ho3, hb3⟩; replace r0 := keeps hb3 r0; replace r1 := keeps hb3 r1; replace r2 := keeps hb3 r2; replace y0 := fun o => keepsF hb3 hs2 (y0 o); replace hW2 := hW2.trans (hb3.mono hW2.size)) | (go_at_call 58; (with_reducible refine (bytesEqual_is _ _ _ l _ _ (owns_bytes ho3) (HB2.below hb3) G).mono ?_); rintro e w4 ⟨rfl, rfl⟩))
    refine bodyPost_ret (v := .tuple #[.agg #[.int .u32 0, .int .u32 0, .slice none 0 0], .int .i64 3]) (by simp [results, Try.results32, go_sem, r0, r1, r2]) rfl ?_
    unfold DecMid
    rw [if_neg hbad]
    exact ⟨rfl, hW2.setCell (Nat.le_refl _) _ |>.setCell (Nat.le_refl _) _ |>.setCell (Nat.le_refl _) _⟩
  · have hgood : pkGood l := by
      have := G.out
      unfold pkGood
      exact eq_of_beq this.symm
    go_wp2_with (first | (go_at_call 31; (with_reducible refine (encode_ok _ _ _ _ _ (pkSrc_lt l) (pkDst_lt l) n23B hE.out).mono ?_); rintro e w3 ⟨p3, rfl, ho3, hb3⟩; replace c4_0 := keeps hb3 c4_0; replace c4_1 := keeps hb3 c4_1; replace c4_2 := keeps hb3 c4_2; replace z4 := fun o => keepsF hb3 l4 (z4 o); replace n23 := owns_below n23 hb3; replace r0 := keeps hb3 r0; replace r1 := keeps hb3 r1; replace r2 := keeps hb3 r2; replace y0 := fun o => keepsF hb3 hs2 (y0 o); replace hW2 := hW2.trans (hb3.mono hW2.size)) | (go_at_call 58; (with_reducible refine (bytesEqual_is _ _ _ l _ _ (owns_bytes ho3) (HB2.below hb3) G).mono ?_); rintro e w4 ⟨rfl, rfl⟩))
    refine bodyPost_ret (v := .tuple #[.agg #[.int .u32 (pkSrc l : Int), .int .u32 (pkDst l : Int), .slice a23 m23 c23], .int .i64 0]) (by simp [results, Try.results32, go_sem, r0, r1, r2]) rfl ?_
    unfold DecMid
    rw [if_pos hgood]
    exact ⟨_, rfl, owns_base (owns_stored (o := 0) (ys := [.int .u32 (pkSrc l : Int), .int .u32 (pkDst l : Int), .slice a23 m23 c23]) n23 (owns_apart_low n23 hs0) rfl) (Nat.le_of_lt hs0), hW2.setCell (Nat.le_refl _) _ |>.setCell (Nat.le_refl _) _ |>.setCell (Nat.le_refl _) _⟩
end Go.Proofs.Ytnopdnclefopbaa
