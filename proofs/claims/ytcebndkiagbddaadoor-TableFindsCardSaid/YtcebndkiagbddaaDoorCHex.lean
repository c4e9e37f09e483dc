/- package hex: contracts (what each function computes). -/
import Derived.Test.YtcebndkiagbddaaDoorTab
import Derived.Test.YtcebndkiagbddaaDoorConv
import Derived.Test.YtcebndkiagbddaaDoorHexT
namespace Go.Proofs.YtcebndkiagbddaaDoor
open Go.RowKit
set_option linter.unusedVariables false
set_option linter.unusedSimpArgs false

theorem ra1 {w : World} {Pub : Nat → Nat → Prop} {φ : Ghost} {x : EV} {vs : List Value} (h : RAs w Pub φ (avL [x]) vs) : ∃ u, vs = [u] ∧ RA w Pub φ x.av u := by
  unfold avL RAs at h
  obtain ⟨u, us, rfl, h1, h2⟩ := h
  unfold avL RAs at h2
  subst h2; exact ⟨u, rfl, h1⟩
theorem ra2 {w : World} {Pub : Nat → Nat → Prop} {φ : Ghost} {x y : EV} {vs : List Value} (h : RAs w Pub φ (avL [x, y]) vs) : ∃ u v, vs = [u, v] ∧ RA w Pub φ x.av u ∧ RA w Pub φ y.av v := by
  unfold avL RAs at h
  obtain ⟨u, us, rfl, h1, h2⟩ := h
  obtain ⟨v, rfl, h3⟩ := ra1 h2
  exact ⟨u, v, rfl, h1, h3⟩
theorem ra_val {w : World} {Pub : Nat → Nat → Prop} {φ : Ghost} {x u : Value} (h : RA w Pub φ (EV.v x).av u) : u = x := by unfold EV.av RA RP at h; exact h
theorem ra_u8v {w : World} {Pub : Nat → Nat → Prop} {φ : Ghost} {x : UInt8} {u : Value} (h : RA w Pub φ (EV.u8 x).av u) : u = .int .u8 (x.toNat : Int) := by unfold EV.av RA b8P RP at h; exact h
theorem cf_hexText {l : List UInt8} (hl : l.length ≤ 1000000) : Cf Tryd.prog 59 [] [.bs l] [] (.s (hexText l)) :=
  Cf.of (by kernel_rfl) fun w Pub φ vs hp hR => by
    obtain ⟨u, rfl, h⟩ := ra1 hR
    exact text_any u l w (bytes_R hp h) hl
theorem cf_indexByte {l : List UInt8} {c : UInt8} : Cf Tryd.prog 64 [] [.s l, .u8 c] [] (.i (Lib.indexByte l c)) :=
  Cf.of (by kernel_rfl) fun w Pub φ vs hp hR => by
    obtain ⟨u, v, rfl, h1, h2⟩ := ra2 hR
    have e1 := ra_val h1; have e2 := ra_u8v h2
    subst e1 e2
    have e3 : (((c.toNat : Nat) : Int).toNat.toUInt8) = c := by rw [Int.toNat_natCast]; exact UInt8.ofNat_toNat
    refine (Tryd.strings_IndexByte _ _ _).mono fun e w' k => ?_
    rw [e3] at k
    exact ⟨k.1, by rw [k.2]; exact Below.refl _ _⟩
theorem u8of_small {x : Int} (h1 : 0 ≤ x) (h2 : x < 256) : u8of x = UInt8.ofNat x.toNat := by
  unfold u8of
  rw [Int.emod_eq_of_lt h1 h2]
theorem cf_digit {c : UInt8} : Cf Tryd.prog 64 [] [.s [48, 49, 50, 51, 52, 53, 54, 55, 56, 57, 97, 98, 99, 100, 101, 102], .u8 c] [] (.i (hexv c)) := cf_indexByte
set_option maxRecDepth 100000 in
set_option maxHeartbeats 4000000 in
theorem cf_hexBytes {l : List UInt8} : Cf Tryd.prog 43 [] [.s l] [] (.tup [.bs (hexB l), .i (hexE l)]) := by
  refine Cf.introR tabT {} (DR _ _ _ tabT {}) (by kernel_rfl) tab_ok Tryd.func43 Tryd.ntmps43 rfl rfl (DR_ok tab_ok (by kernel_rfl)) (by kernel_rfl) ?_
  refine ⟨fun h1 => ?_, fun h1 => ?_⟩
  · skip
    have c1 := h1
    (simp only [bsX] at c1)
    repeat (refine Ob.mk ?_ ?_; (focus (((simp only [hexB, hexE, h1, Bool.cond_decide, Bool.cond_not, cond_true, cond_false, Bool.not_true, Bool.not_false, Bool.and_true, Bool.true_and, Bool.and_false, Bool.false_and, Bool.or_true, Bool.true_or, Bool.or_false, Bool.false_or]; simp (disch := omega) only [if_pos, if_neg]; done)))))
    trivial
  · skip
    have c1 := h1
    (simp only [bsX] at c1)
    repeat (refine Ob.mk ?_ ?_; focus (omega))
    refine ⟨fun h2 => ?_, fun h2 => ?_⟩
    · skip
      have c2 := h2
      (simp only [bsX] at c2)
      repeat (refine Ob.mk ?_ ?_; (focus (((simp only [hexB, hexE, h1, h2, Bool.cond_decide, Bool.cond_not, cond_true, cond_false, Bool.not_true, Bool.not_false, Bool.and_true, Bool.true_and, Bool.and_false, Bool.false_and, Bool.or_true, Bool.true_or, Bool.or_false, Bool.false_or]; simp (disch := omega) only [if_pos, if_neg]; done)))))
      trivial
    · skip
      have c2 := h2
      (simp only [bsX] at c2)
      repeat (refine Ob.mk ?_ ?_; focus (omega))
      refine ⟨List UInt8, fun u => ⟨[(0, .s l), (4, .osl 60 u.length), (5, .i (2 * (u.length : Int)))], [(60, .rb u 5 0)]⟩, fun u => unhex (l.take (2 * u.length)) = some u ∧ 2 * u.length ≤ l.length, fun u => l.length - 2 * u.length, [], ⟨rfl, Nat.zero_le _⟩, ?_, fun u hx1 => ?_⟩
      · skip
        repeat (refine Ob.mk ?_ ?_; focus (first | (exact Eq.refl _) | omega))
        trivial
      refine ⟨fun h3 => ?_, fun h3 => ?_⟩
      · skip
        have c3 := h3
        (simp only [bsX] at c3)
        obtain ⟨hu, hle⟩ := hx1; have hlt : 2 * u.length + 1 < l.length := by omega
        have ha := unhex_at hu hlt
        have f1 : (2 * (u.length : Int)).toNat = 2 * u.length := by omega
        have f2 : (2 * (u.length : Int) + 1).toNat = 2 * u.length + 1 := by omega
        refine ⟨[0, 0, 3, 7, 0, 0, 32, 112, 255, 511, 1023], by kernel_rfl, ?_⟩
        repeat (refine Ob.mk ?_ ?_; focus (omega))
        refine ⟨_, _, _, _, (@cf_digit ?_), ?_⟩
        rotate_left 1
        repeat (refine Ob.mk ?_ ?_; focus (first | (exact Eq.refl _) | omega))
        refine ⟨_, _, _, _, (@cf_digit ?_), ?_⟩
        rotate_left 1
        repeat (refine Ob.mk ?_ ?_; focus (first | (exact Eq.refl _) | (exact fun hg => beq_f hg) | (exact fun hg => hg)))
        refine ⟨fun h4 => ?_, fun h4 => ?_⟩
        · skip
          have c4 := h4
          (simp only [bsX] at c4)
          rw [f1, f2] at c4
          rw [if_pos c4] at ha; have hz := unhex_stop ha (by omega) (by omega); obtain ⟨z1, z2⟩ := hex_bad c1 (by omega) hz
          repeat (refine Ob.mk ?_ ?_; focus (first | assumption | omega))
          trivial
        · skip
          have c4 := h4
          (simp only [bsX] at c4)
          rw [f1, f2] at c4; have b1 := hexv_bd (l.getD (2 * u.length) 0); have b2 := hexv_bd (l.getD (2 * u.length + 1) 0)
          rw [if_neg (fun h => h.elim c4.1 c4.2)] at ha
          repeat (refine Ob.mk ?_ ?_; (focus (first | (rw [f1, f2]; exact Eq.refl _) | (exact Eq.refl _) | omega | (simp only [SrcE.len, Nat.zero_add, List.length_append, List.length_cons, List.length_nil]; omega) | (simp_all [hexB, hexE]; omega))))
          have hnx : ∀ x : UInt8, 2 * (u ++ [x]).length = 2 * u.length + 2 := fun x => by simp; omega
          have hny : unhex (l.take (2 * (u ++ [UInt8.ofNat (16 * hexv (l.getD (2 * u.length) 0) + hexv (l.getD (2 * u.length + 1) 0)).toNat]).length)) = some (u ++ [UInt8.ofNat (16 * hexv (l.getD (2 * u.length) 0) + hexv (l.getD (2 * u.length + 1) 0)).toNat]) ∧ 2 * (u ++ [UInt8.ofNat (16 * hexv (l.getD (2 * u.length) 0) + hexv (l.getD (2 * u.length + 1) 0)).toNat]).length ≤ l.length := by rw [hnx]; exact ⟨ha, by omega⟩
          refine ⟨u ++ [UInt8.ofNat (16 * hexv (l.getD (2 * u.length) 0) + hexv (l.getD (2 * u.length + 1) 0)).toNat], (by assumption), (by (simp only [SrcE.len, Nat.zero_add, List.length_append, List.length_cons, List.length_nil]; omega)), ?_⟩
          repeat (refine Ob.mk ?_ ?_; (focus (first | (rw [f1, f2, u8of_small (by omega) (by omega)]; done) | (exact Eq.refl _) | (exact Nat.le_of_ble_eq_true rfl) | (simp only [SrcE.len, Nat.zero_add, List.length_append, List.length_cons, List.length_nil]; first | done | omega))))
          trivial
      · skip
        have c3 := h3
        (simp only [bsX] at c3)
        obtain ⟨hu, hle⟩ := hx1; have he : 2 * u.length = l.length := by omega
        rw [List.take_of_length_le (by omega)] at hu; obtain ⟨z1, z2⟩ := hex_done c1 (by omega) hu
        repeat (refine Ob.mk ?_ ?_; (focus (first | (exact Eq.refl _) | omega | (simp_all [hexB, hexE]; done))))
        trivial
set_option maxRecDepth 100000 in
set_option maxHeartbeats 4000000 in
theorem cf_hexCheck {l : List UInt8} : Cf Tryd.prog 37 [] [.s l] [] (.i (hexC l)) := by
  refine Cf.introR tabT {} D0 (by kernel_rfl) tab_ok Tryd.func37 Tryd.ntmps37 rfl rfl (D0_ok) (by kernel_rfl) ?_
  refine ⟨fun h1 => ?_, fun h1 => ?_⟩
  · skip
    have c1 := h1
    (simp only [bsX] at c1)
    repeat (refine Ob.mk ?_ ?_; (focus (((simp only [hexC, h1, Bool.cond_decide, Bool.cond_not, cond_true, cond_false, Bool.not_true, Bool.not_false, Bool.and_true, Bool.true_and, Bool.and_false, Bool.false_and, Bool.or_true, Bool.true_or, Bool.or_false, Bool.false_or]; simp (disch := omega) only [if_pos, if_neg]; done)))))
    trivial
  · skip
    have c1 := h1
    (simp only [bsX] at c1)
    refine ⟨_, _, _, _, (@cf_hexBytes ?_), ?_⟩
    rotate_left 1
    repeat (refine Ob.mk ?_ ?_; (focus (first | (exact Eq.refl _) | (simp only [hexC, h1, Bool.cond_decide, Bool.cond_not, cond_true, cond_false, Bool.not_true, Bool.not_false, Bool.and_true, Bool.true_and, Bool.and_false, Bool.false_and, Bool.or_true, Bool.true_or, Bool.or_false, Bool.false_or]; simp (disch := omega) only [if_pos, if_neg]; done))))
    trivial
end Go.Proofs.YtcebndkiagbddaaDoor
