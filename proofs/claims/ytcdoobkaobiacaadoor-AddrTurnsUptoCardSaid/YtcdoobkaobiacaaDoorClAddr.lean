/- AddrTurns, AddrBack, NetBack: the walks of the statements' functions. -/
import Derived.Test.YtcdoobkaobiacaaDoorCAddr
import Derived.Test.YtcdoobkaobiacaaDoorCKey
namespace Go.Proofs.YtcdoobkaobiacaaDoor
open Go.RowKit Go.Lib
set_option linter.unusedVariables false
set_option linter.unusedSimpArgs false

set_option maxRecDepth 100000 in
set_option maxHeartbeats 4000000 in
theorem cf_NetBackO {r : RawS} {n : List Bool} (hr : r.inn) (hn : n = netP r.k r.a r.b) : Cf Tryd.prog 8 [] [.agg [.i r.k, .i r.a, .i r.b, .s r.s]] [] (.b true) := by
  have hn32 : n.length ≤ 32 := by rw [hn]; exact netP_len
  have hNet := cf_kNet (s := r.s) hr.1 hr.2.1 hr.2.2.1
  rw [← hn] at hNet
  have hl := (netT_okV hn32).2
  have hP := cf_netParse (s := netT n) (by omega)
  rw [net_back hn32] at hP
  refine Cf.introR tabT {} D0 (by kernel_rfl) tab_ok Tryd.func8 Tryd.ntmps8 rfl rfl (D0_ok) (by kernel_rfl) ?_
  refine ⟨_, _, _, _, hNet, ?_⟩
  repeat (refine Ob.mk ?_ ?_; focus ((exact Eq.refl _)))
  refine ⟨_, _, _, _, (cf_netText hn32), ?_⟩
  repeat (refine Ob.mk ?_ ?_; focus ((exact Eq.refl _)))
  refine ⟨_, _, _, _, hP, ?_⟩
  repeat (refine Ob.mk ?_ ?_; (focus (first | (exact Eq.refl _) | (intro _; exact Eq.refl _))))
  refine gx2 (cf_NetTextP hn32) (fun hk => ⟨fun _ => hk, ?_⟩)
  repeat (refine Ob.mk ?_ ?_; (focus (first | (intro _; exact Eq.refl _) | (exact fun hg => beq_t hg) | (exact fun hg => hg) | (simp only [cond_true, cond_true, cond_false, Bool.not_true, Bool.not_false, Bool.and_true, Bool.true_and, Bool.and_false, Bool.false_and, Bool.or_true, Bool.true_or, Bool.or_false, Bool.false_or, Int.reduceToNat, UInt8.reduceOfNat]; exact Eq.refl _))))
  trivial
theorem cf_NetBack {r : RawS} (hr : r.inn) : Cf Tryd.prog 8 [] [.agg [.i r.k, .i r.a, .i r.b, .s r.s]] [] (.b true) := cf_NetBackO hr rfl
theorem adrT_0 : adrT 0 = [48, 46, 48, 46, 48, 46, 48] := by
  show join [decDigits 0, decDigits 0, decDigits 0, decDigits 0] [46] = _
  rw [decDigits_one (i := 0) (by decide)]; rfl
theorem adrT_1234 : adrT 16909060 = [49, 46, 50, 46, 51, 46, 52] := by
  show join [decDigits 1, decDigits 2, decDigits 3, decDigits 4] [46] = _
  rw [decDigits_one (i := 1) (by decide), decDigits_one (i := 2) (by decide), decDigits_one (i := 3) (by decide), decDigits_one (i := 4) (by decide)]; rfl
theorem trim_p (d : List UInt8) : Lib.trimPrefix (adrT (0 : UInt32).toNat ++ 47 :: d) [48, 46, 48, 46, 48, 46, 48, 47] = d := by
  show Lib.trimPrefix (adrT 0 ++ 47 :: d) _ = d
  rw [adrT_0]
  unfold Lib.trimPrefix Lib.hasPrefix
  have e : ([48, 46, 48, 46, 48, 46, 48] : List UInt8) ++ 47 :: d = [48, 46, 48, 46, 48, 46, 48, 47] ++ d := rfl
  rw [e, if_pos (List.isPrefixOf_iff_prefix.2 ⟨d, rfl⟩)]; rfl
theorem trim_s (u : Nat) : Lib.trimSuffix (decDigits u) [32] = decDigits u := by
  unfold Lib.trimSuffix Lib.hasSuffix
  refine if_neg fun h => ?_
  have k := List.isSuffixOf_iff_suffix.1 h
  exact all_not (dec_all u) (c := 32) (by decide) (k.subset (List.mem_singleton.2 rfl))
theorem cf_TrimP {d : List UInt8} : Cf Tryd.prog 31 [] [.s (adrT (0 : UInt32).toNat ++ 47 :: d), .s [48, 46, 48, 46, 48, 46, 48, 47]] [] (.s d) :=
  Cf.of (by kernel_rfl) fun w Pub φ vs hp hR => by
    obtain ⟨u, v, rfl, h1, h2⟩ := ra2 hR
    have e1 := ra_val h1; have e2 := ra_val h2
    subst e1 e2
    refine (Tryd.strings_TrimPrefix ⟨⟨_⟩⟩ ⟨⟨[48, 46, 48, 46, 48, 46, 48, 47]⟩⟩ w).mono fun e w' k => ⟨?_, by rw [k.2]; exact Below.refl _ _⟩
    rw [k.1]
    show Ending.returned (.string ⟨(Lib.trimPrefix (adrT (0 : UInt32).toNat ++ 47 :: d) [48, 46, 48, 46, 48, 46, 48, 47]).toArray⟩) = _
    rw [trim_p]
theorem cf_TrimS {u : Nat} (hu : u < 100000) : Cf Tryd.prog 30 [] [.s (decDigits u), .s [32]] [] (.s (decDigits u)) :=
  Cf.of (by kernel_rfl) fun w Pub φ vs hp hR => by
    obtain ⟨x, v, rfl, h1, h2⟩ := ra2 hR
    have e1 := ra_val h1; have e2 := ra_val h2
    subst e1 e2
    refine (Tryd.strings_TrimSuffix ⟨⟨decDigits u⟩⟩ ⟨⟨[32]⟩⟩ w (by show (decDigits u).length ≤ _; have := dec_len hu; omega)).mono fun e w' k => ⟨?_, by rw [k.2]; exact Below.refl _ _⟩
    rw [k.1]
    show Ending.returned (.string ⟨(Lib.trimSuffix (decDigits u) [32]).toArray⟩) = _
    rw [trim_s]
set_option maxRecDepth 100000 in
set_option maxHeartbeats 4000000 in
theorem cf_AddrBackO {a : UInt32} {n : Int} {q : Nat} (hn : IntIn n) (hq : pk n 65536 = (q : Int)) (hq2 : q < 65536) : Cf Tryd.prog 7 [] [.u32 a, .i n] [] (.b true) := by
  have hl := adrT_len a.toNat
  have hP := cf_adrParse (s := adrT a.toNat) (by omega)
  rw [adr_back a.toNat a.toNat_lt] at hP
  have hK : Cf Tryd.prog 20 [] [.i n, .i 65536] [] (.i (q : Int)) := hq ▸ cf_picked hn.1 hn.2 (by decide)
  have hD := dec_len (u := q) (by omega)
  have hN := cf_Number (s := decDigits q) (most := 65535) (by omega)
  have hs := sm_dec (u := q) (most := 65535) (by omega) (by omega)
  have hN1 : nbN (decDigits q) 65535 = (q : Int) := by unfold nbN; rw [if_pos hs.1, hs.2]
  have hN2 : nbE (decDigits q) 65535 = 0 := by unfold nbE; rw [if_pos hs.1]
  rw [hN1, hN2] at hN
  have hT := cf_addrText (a := 16909060)
  rw [show adrT (16909060 : UInt32).toNat = [49, 46, 50, 46, 51, 46, 52] from adrT_1234] at hT
  have ha : UInt32.ofNat a.toNat = a := UInt32.ofNat_toNat
  rw [show (UInt32.ofNat (a.toNat, (0 : Int)).1) = a from ha] at hP
  refine Cf.introR tabT {} D0 (by kernel_rfl) tab_ok Tryd.func7 Tryd.ntmps7 rfl rfl (D0_ok) (by kernel_rfl) ?_
  refine ⟨_, _, _, _, (cf_addrText (a := a)), ?_⟩
  repeat (refine Ob.mk ?_ ?_; focus ((exact Eq.refl _)))
  refine ⟨_, _, _, _, hP, ?_⟩
  repeat (refine Ob.mk ?_ ?_; focus ((exact Eq.refl _)))
  refine ⟨_, _, _, _, hK, ?_⟩
  repeat (refine Ob.mk ?_ ?_; focus ((exact Eq.refl _)))
  refine ⟨_, _, _, _, (cf_NetText (a := 0) (n := q) (by omega)), ?_⟩
  repeat (refine Ob.mk ?_ ?_; focus ((exact Eq.refl _)))
  refine ⟨_, _, _, _, (cf_TrimP (d := decDigits q)), ?_⟩
  repeat (refine Ob.mk ?_ ?_; focus ((exact Eq.refl _)))
  refine ⟨_, _, _, _, (cf_TrimS (u := q) (by omega)), ?_⟩
  repeat (refine Ob.mk ?_ ?_; focus ((exact Eq.refl _)))
  refine ⟨_, _, _, _, hN, ?_⟩
  repeat (refine Ob.mk ?_ ?_; (focus (first | (exact Eq.refl _) | (intro _; exact Eq.refl _) | (exact fun hg => beq_t hg) | (exact fun hg => hg))))
  refine gx2 (hT) (fun hk => ⟨fun _ => hk, ?_⟩)
  repeat (refine Ob.mk ?_ ?_; (focus (first | (intro _; exact Eq.refl _) | (exact fun hg => beq_t hg) | (exact fun hg => hg) | (simp only [cond_true, cond_true, cond_false, Bool.not_true, Bool.not_false, Bool.and_true, Bool.true_and, Bool.and_false, Bool.false_and, Bool.or_true, Bool.true_or, Bool.or_false, Bool.false_or, Int.reduceToNat, UInt8.reduceOfNat]; exact Eq.refl _))))
  trivial
theorem cf_AddrBack {a : UInt32} {n : Int} (hn : IntIn n) : Cf Tryd.prog 7 [] [.u32 a, .i n] [] (.b true) := by
  have h1 := pk_ge n (m := 65536) (by decide); have h2 := pk_lt n (m := 65536) (by decide)
  exact cf_AddrBackO (q := (pk n 65536).toNat) hn (by omega) (by omega)
set_option maxRecDepth 100000 in
set_option maxHeartbeats 4000000 in
theorem cf_AddrTurns {s : List UInt8} (hl : s.length ≤ 1048576) : Cf Tryd.prog 6 [] [.s s] [] (.b true) := by
  have hE := cf_End (s := [49, 46, 50, 46, 51, 46, 52, 58, 53]) (by decide)
  rw [show endN [49, 46, 50, 46, 51, 46, 52, 58, 53] = (16909060, 5) from by decide, show endE [49, 46, 50, 46, 51, 46, 52, 58, 53] = 0 from by decide] at hE
  have hT := cf_addrText (a := UInt32.ofNat (adrR s).1)
  refine Cf.introR tabT {} D0 (by kernel_rfl) tab_ok Tryd.func6 Tryd.ntmps6 rfl rfl (D0_ok) (by kernel_rfl) ?_
  refine ⟨_, _, _, _, (cf_adrParse (s := s) (by omega)), ?_⟩
  repeat (refine Ob.mk ?_ ?_; focus ((exact Eq.refl _)))
  refine ⟨_, _, _, _, hE, ?_⟩
  repeat (refine Ob.mk ?_ ?_; (focus (first | (exact Eq.refl _) | (intro _; exact Eq.refl _))))
  refine ⟨fun h1 => ?_, fun h1 => ?_⟩
  · skip
    (simp only [Int.reduceToNat, UInt8.reduceOfNat] at h1)
    have c1 := h1
    (simp only [Bool.not_eq_true', Bool.not_eq_false', Bool.not_true, Bool.not_false, Bool.and_eq_true, Bool.or_eq_true, Bool.and_eq_false_iff, Bool.or_eq_false_iff, Bool.not_not, beq_true, beq_false, decide_eq_true_eq, decide_eq_false_iff_not] at c1)
    exact absurd (show false = true from h1) (by decide)
  · skip
    (simp only [Int.reduceToNat, UInt8.reduceOfNat] at h1)
    have c1 := h1
    (simp only [Bool.not_eq_true', Bool.not_eq_false', Bool.not_true, Bool.not_false, Bool.and_eq_true, Bool.or_eq_true, Bool.and_eq_false_iff, Bool.or_eq_false_iff, Bool.not_not, beq_true, beq_false, decide_eq_true_eq, decide_eq_false_iff_not] at c1)
    refine ⟨fun h2 => ?_, fun h2 => ?_⟩
    · skip
      have c2 := h2
      (simp only [Bool.not_eq_true', Bool.not_eq_false', Bool.not_true, Bool.not_false, Bool.and_eq_true, Bool.or_eq_true, Bool.and_eq_false_iff, Bool.or_eq_false_iff, Bool.not_not, beq_true, beq_false, decide_eq_true_eq, decide_eq_false_iff_not] at c2)
      have hN := adr_no (s := s) (by simpa using h2)
      repeat (refine Ob.mk ?_ ?_; (focus (((rw [hN]; rfl)))))
      trivial
    · skip
      have c2 := h2
      (simp only [Bool.not_eq_true', Bool.not_eq_false', Bool.not_true, Bool.not_false, Bool.and_eq_true, Bool.or_eq_true, Bool.and_eq_false_iff, Bool.or_eq_false_iff, Bool.not_not, beq_true, beq_false, decide_eq_true_eq, decide_eq_false_iff_not] at c2)
      have hO := adr_turns (s := s) (by simpa using h2)
      rw [show (UInt32.ofNat (adrR s).1).toNat = (adrR s).1 from Nat.mod_eq_of_lt (by omega), hO.1] at hT
      refine ⟨_, _, _, _, hT, ?_⟩
      repeat (refine Ob.mk ?_ ?_; (focus (first | (exact Eq.refl _) | (simp only [h1, h2, cond_true, cond_false, Bool.not_true, Bool.not_false, Bool.and_true, Bool.true_and, Bool.and_false, Bool.false_and, Bool.or_true, Bool.true_or, Bool.or_false, Bool.false_or, Int.reduceToNat, UInt8.reduceOfNat]; exact Eq.refl _))))
      trivial
end Go.Proofs.YtcdoobkaobiacaaDoor
