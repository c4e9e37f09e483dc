/- The laws on shake: their walks. -/
import Derived.Test.YtpcagbfnddgjpaaCShakeA
import Derived.Test.YtpcagbfnddgjpaaCConc
import Derived.Test.YtpcagbfnddgjpaaClSealS
namespace Go.Proofs.Ytpcagbfnddgjpaa
open Go.RowKit
set_option linter.unusedVariables false
set_option linter.unusedSimpArgs false

theorem keys12 : ¬ keyS 1 = keyS 2 := fun h => by
  unfold keyS at h
  have := keyN_inj (pk 1 8).toNat (by decide) (pk 2 8).toNat (by decide) h
  exact absurd this (by decide)
section
variable {s : List UInt8} {mine theirs : Int} (hs : s = [] ∨ hexC s = 0) (h1 : 1 ≤ mine ∧ mine ≤ 1001) (h2 : 1 ≤ theirs ∧ theirs ≤ 1001)
include h1
theorem mt_non1 : Cf Try.prog 33 [] [.s (keyS 1), .i mine] [] (.tup [.s (nonS (keyS 1) mine), .i 0]) := non_cf (keyS_ok 1) (by omega) (by omega)
theorem mt_non2 : Cf Try.prog 33 [] [.s (keyS 2), .i mine] [] (.tup [.s (nonS (keyS 2) mine), .i 0]) := non_cf (keyS_ok 2) (by omega) (by omega)
abbrev helloE (s : List UInt8) (mine : Int) : EV := .agg [.i 1, .i mine, .i 0, .i 0, .bs (hloB (keyS 1) (keyS 2) s mine (nonV (keyS 1) mine))]
theorem mt_finishK {h : List UInt8} {live : Bool} {hm : Int} : Cf Try.prog 49 [] [.s (keyS 1), .s (keyS 2), .s s, .agg [.b live, .i hm, .s h, .i 0, .i 0], helloE s mine, .i 8] [] (.tup [kz, .i 2]) :=
  cf_FinishKE (by omega) (hloB_length _ _ _ _ (nonV_length _ _))
include hs
theorem mt_hello : Cf Try.prog 47 [] [.s (keyS 1), .s (keyS 2), .s s, .i mine, .s (nonS (keyS 1) mine)] [] (.tup [helloE s mine, .i 0]) :=
  cf_Hello (keyS_ok 1) (keyS_ok 2) keys12 hs (by omega) (by omega) (nonS_length _ _) (nonS_un _ _)
theorem mt_greets : Cf Try.prog 50 [] [.s (keyS 2), .s (keyS 1), .s s, helloE s mine] [] (.tup [.s (nonS (keyS 1) mine), .i 0]) := by
  have h := cf_Greets (o := keyS 2) (p := keyS 1) (s := s) (mine := mine) (b := hloB (keyS 1) (keyS 2) s mine (nonV (keyS 1) mine)) (keyS_ok 2) (keyS_ok 1) keys12 hs (by omega) (by omega) (hloB_length _ _ _ _ (nonV_length _ _))
  obtain ⟨e1, e2⟩ := hlo_ok (keyS 1) (keyS 2) s mine (nonV_length (keyS 1) mine)
  rw [e1, e2, ← nonS_V] at h; exact h
include h2
abbrev answE (s : List UInt8) (mine theirs : Int) (v : List UInt8) : EV := .agg [.i 2, .i theirs, .i mine, .i 0, .bs (ansB (keyS 2) (keyS 1) s (nonS (keyS 1) mine) mine theirs v)]
theorem mt_answer {n v : List UInt8} (hn : n.length = 16) (hv : unhex n = some v) : Cf Try.prog 48 [] [.s (keyS 2), .s (keyS 1), .s s, helloE s mine, .i theirs, .s n, .i 7] []
    (.tup [answE s mine theirs v, (makeK (secS (keyS 2) (keyS 1) s) (nonS (keyS 1) mine) n false theirs mine 7).ev, .i 0]) := by
  have h := cf_Answer (o := keyS 2) (p := keyS 1) (s := s) (b := hloB (keyS 1) (keyS 2) s mine (nonV (keyS 1) mine)) (n := n) (v := v) (fr := mine) (mine := theirs) (now := 7) (keyS_ok 2) (keyS_ok 1) (fun e => keys12 e.symm) hs (by omega) (by omega) (by decide)
    (hloB_length _ _ _ _ (nonV_length _ _)) (hlo_ok (keyS 1) (keyS 2) s mine (nonV_length (keyS 1) mine)).1 hn hv
  rw [hlo_take (keyS 1) (keyS 2) s mine (nonV_length (keyS 1) mine), ← nonS_V] at h; exact h
theorem mt_finish {v : List UInt8} (hv : v.length = 8) : Cf Try.prog 49 [] [.s (keyS 1), .s (keyS 2), .s s, .agg [.b true, .i mine, .s (nonS (keyS 1) mine), .i 0, .i 0], answE s mine theirs v, .i 8] []
    (.tup [(makeK (secS (keyS 1) (keyS 2) s) (nonS (keyS 1) mine) (hexText v) true mine theirs 8).ev, .i 0]) := by
  obtain ⟨e1, e2⟩ := ans_take (keyS 2) (keyS 1) s (nonS (keyS 1) mine) mine theirs hv
  have h := cf_FinishO (o := keyS 1) (p := keyS 2) (s := s) (h := nonS (keyS 1) mine) (b := ansB (keyS 2) (keyS 1) s (nonS (keyS 1) mine) mine theirs v) (live := true) (hm := mine) (bn := 0) (st := 0) (snd := theirs) (rcv := mine) (now := 8)
    (by unfold fiE; rw [if_neg (by simp), e1, e2, secS_comm s keys12, if_pos rfl]) (keyS_ok 1) (keyS_ok 2) keys12 hs (nonS_length _ _) (by omega) (by omega) (by decide) (ansB_length _ _ _ _ _ _ hv)
  rw [e1] at h; exact h
theorem mt_finishX {v : List UInt8} (hv : v.length = 8) (a : Int) (y : UInt8) : Cf Try.prog 49 [] [.s (keyS 1), .s (keyS 2), .s s, .agg [.b true, .i mine, .s (nonS (keyS 1) mine), .i 0, .i 0],
    .agg [.i 2, .i theirs, .i mine, .i 0, .bs ((ansB (keyS 2) (keyS 1) s (nonS (keyS 1) mine) mine theirs v).take 8 ++ trn ((ansB (keyS 2) (keyS 1) s (nonS (keyS 1) mine) mine theirs v).drop 8) a y)], .i 8] [] (.tup [kz, .i 9]) := by
  obtain ⟨e1, e2⟩ := ans_take (keyS 2) (keyS 1) s (nonS (keyS 1) mine) mine theirs hv
  have l1 := shT_length (secS (keyS 2) (keyS 1) s) (answerW ++ nonS (keyS 1) mine) (num4 mine) (num4 theirs) v
  have ne := trn_ne (l := shT (secS (keyS 2) (keyS 1) s) (answerW ++ nonS (keyS 1) mine) (num4 mine) (num4 theirs) v) (by omega) a y
  have l2 := trn_len (shT (secS (keyS 2) (keyS 1) s) (answerW ++ nonS (keyS 1) mine) (num4 mine) (num4 theirs) v) a y
  rw [e1, e2]
  have t1 : (v ++ trn (shT (secS (keyS 2) (keyS 1) s) (answerW ++ nonS (keyS 1) mine) (num4 mine) (num4 theirs) v) a y).take 8 = v := by rw [List.take_append_of_le_length (by omega), List.take_of_length_le (by omega)]
  have t2 : (v ++ trn (shT (secS (keyS 2) (keyS 1) s) (answerW ++ nonS (keyS 1) mine) (num4 mine) (num4 theirs) v) a y).drop 8 = trn (shT (secS (keyS 2) (keyS 1) s) (answerW ++ nonS (keyS 1) mine) (num4 mine) (num4 theirs) v) a y := by
    rw [List.drop_append_of_le_length (by omega), List.drop_of_length_le (by omega)]; rfl
  have e : fiE (keyS 1) (keyS 2) s (nonS (keyS 1) mine) true mine theirs mine (v ++ trn (shT (secS (keyS 2) (keyS 1) s) (answerW ++ nonS (keyS 1) mine) (num4 mine) (num4 theirs) v) a y) = 9 := by
    unfold fiE; rw [if_neg (by simp), t1, t2, secS_comm s keys12, if_neg (fun h => ne h.symm)]
  have h := cf_FinishE (o := keyS 1) (p := keyS 2) (s := s) (h := nonS (keyS 1) mine) (b := v ++ trn (shT (secS (keyS 2) (keyS 1) s) (answerW ++ nonS (keyS 1) mine) (num4 mine) (num4 theirs) v) a y) (live := true) (hm := mine) (bn := 0) (st := 0) (snd := theirs) (rcv := mine) (now := 8)
    (by rw [e]; decide) (keyS_ok 1) (keyS_ok 2) keys12 hs (fun _ => nonS_length _ _) (by omega) (by omega) (by decide) (by rw [List.length_append, l2, l1, hv])
  rw [e] at h; exact h
theorem mt_finishI {v h : List UInt8} {live : Bool} {hm : Int} (hv : v.length = 8) (hh : live = true → h.length = 16) (hi : live = false ∨ ¬ mine = hm) : Cf Try.prog 49 [] [.s (keyS 1), .s (keyS 2), .s s, .agg [.b live, .i hm, .s h, .i 0, .i 0], answE s mine theirs v, .i 8] []
    (.tup [kz, .i 13]) := by
  have e : fiE (keyS 1) (keyS 2) s h live hm theirs mine (ansB (keyS 2) (keyS 1) s (nonS (keyS 1) mine) mine theirs v) = 13 := by unfold fiE; rw [if_pos hi]
  have k := cf_FinishE (o := keyS 1) (p := keyS 2) (s := s) (h := h) (b := ansB (keyS 2) (keyS 1) s (nonS (keyS 1) mine) mine theirs v) (live := live) (hm := hm) (bn := 0) (st := 0) (snd := theirs) (rcv := mine) (now := 8)
    (by rw [e]; decide) (keyS_ok 1) (keyS_ok 2) keys12 hs hh (by omega) (by omega) (by decide) (ansB_length _ _ _ _ _ _ hv)
  rw [e] at k; exact k
omit h2
theorem mt_greetsX (a : Int) (y : UInt8) : Cf Try.prog 50 [] [.s (keyS 2), .s (keyS 1), .s s, .agg [.i 1, .i mine, .i 0, .i 0, .bs ((hloB (keyS 1) (keyS 2) s mine (nonV (keyS 1) mine)).take 16 ++ trn ((hloB (keyS 1) (keyS 2) s mine (nonV (keyS 1) mine)).drop 16) a y)]] [] (.tup [.s [], .i 9]) := by
  have lv := nonV_length (keyS 1) mine
  have lm := markS_length (keyS 1)
  have lh := hloB_length (keyS 1) (keyS 2) s mine lv
  have ld : ((hloB (keyS 1) (keyS 2) s mine (nonV (keyS 1) mine)).drop 16).length = 16 := by rw [List.length_drop]; omega
  have ne := trn_ne (l := (hloB (keyS 1) (keyS 2) s mine (nonV (keyS 1) mine)).drop 16) (by omega) a y
  have l2 := trn_len ((hloB (keyS 1) (keyS 2) s mine (nonV (keyS 1) mine)).drop 16) a y
  have t0 := hlo_take (keyS 1) (keyS 2) s mine lv
  have t1 : ((hloB (keyS 1) (keyS 2) s mine (nonV (keyS 1) mine)).take 16 ++ trn ((hloB (keyS 1) (keyS 2) s mine (nonV (keyS 1) mine)).drop 16) a y).take 8 = nonV (keyS 1) mine := by
    rw [List.take_append_of_le_length (by rw [List.length_take]; omega), List.take_take]; exact t0
  have e : ¬ hloB (keyS 1) (keyS 2) s mine (nonV (keyS 1) mine) = (hloB (keyS 1) (keyS 2) s mine (nonV (keyS 1) mine)).take 16 ++ trn ((hloB (keyS 1) (keyS 2) s mine (nonV (keyS 1) mine)).drop 16) a y := fun q => by
    have := congrArg (List.drop 16) q
    rw [List.drop_append_of_le_length (by rw [List.length_take]; omega), List.drop_of_length_le (l := List.take 16 _) (by rw [List.length_take]; omega)] at this
    exact ne this.symm
  have h := cf_Greets (o := keyS 2) (p := keyS 1) (s := s) (mine := mine) (b := (hloB (keyS 1) (keyS 2) s mine (nonV (keyS 1) mine)).take 16 ++ trn ((hloB (keyS 1) (keyS 2) s mine (nonV (keyS 1) mine)).drop 16) a y) (keyS_ok 2) (keyS_ok 1) keys12 hs (by omega) (by omega) (by rw [List.length_append, l2, ld, List.length_take]; omega)
  unfold grR grE at h
  rw [t1, if_neg e, if_neg e] at h; exact h
end
def mtS (sh : Bool) : List UInt8 := bif sh then keyS 7 else []
theorem mtS_ok (sh : Bool) : mtS sh = [] ∨ hexC (mtS sh) = 0 := by cases sh; exact .inl rfl; exact .inr (keyS_ok 7)
def metL (a b : Int) (s : List UInt8) : KS := makeK (secS (keyS 1) (keyS 2) s) (nonS (keyS 1) (1 + pk a 1000)) (nonS (keyS 2) (1 + pk b 1000)) true (1 + pk a 1000) (1 + pk b 1000) 8
def metK (a b : Int) (s : List UInt8) : KS := makeK (secS (keyS 2) (keyS 1) s) (nonS (keyS 1) (1 + pk a 1000)) (nonS (keyS 2) (1 + pk b 1000)) false (1 + pk b 1000) (1 + pk a 1000) 7
set_option maxRecDepth 100000 in
set_option maxHeartbeats 4000000 in
theorem cf_met {a b : Int} {sh : Bool} (ha : IntIn a) (hb : IntIn b) : Cf Try.prog 46 [] [.i a, .i b, .b sh] [] (.tup [(metL a b (mtS sh)).ev, (metK a b (mtS sh)).ev, .b true]) := by
  have a1 := pk_ge a (m := 1000) (by decide)
  have a2 := pk_lt a (m := 1000) (by decide)
  have b1 := pk_ge b (m := 1000) (by decide)
  have b2 := pk_lt b (m := 1000) (by decide)
  have m1 : 1 ≤ 1 + pk a 1000 ∧ 1 + pk a 1000 ≤ 1001 := by omega
  have m2 : 1 ≤ 1 + pk b 1000 ∧ 1 + pk b 1000 ≤ 1001 := by omega
  have hs := mtS_ok sh
  have f1 := mt_non1 m1
  have f2 := mt_hello hs m1
  have f3 := mt_non2 m2
  have f4 := mt_greets hs m1
  have f5 := mt_answer hs m1 m2 (nonS_length (keyS 2) (1 + pk b 1000)) (nonS_un (keyS 2) (1 + pk b 1000))
  have f6 := mt_finish hs m1 m2 (nonV_length (keyS 2) (1 + pk b 1000))
  rw [← nonS_V] at f6
  have q1 := cf_Key (n := 1) ⟨by decide, by decide⟩
  have q2 := cf_Key (n := 2) ⟨by decide, by decide⟩
  have q7 := cf_Key (n := 7) ⟨by decide, by decide⟩
  refine Cf.introR tabT {} (DR _ _ _ tabT {}) (by kernel_rfl) tab_ok Try.func46 Try.ntmps46 rfl rfl (DR_ok tab_ok (by kernel_rfl)) (by kernel_rfl) ?_
  refine ⟨fun h1 => ?_, fun h1 => ?_⟩
  · skip
    have c1 := h1
    obtain rfl := h1
    refine ⟨_, _, _, _, q7, ?_⟩
    repeat (refine Ob.mk ?_ ?_; focus ((exact Eq.refl _)))
    refine ⟨_, _, _, _, (@cf_picked ?_ ?_ ?_ ?_ ?_), ?_⟩
    rotate_left 5
    repeat (refine Ob.mk ?_ ?_; focus (first | (exact Eq.refl _) | omega))
    refine ⟨_, _, _, _, (@cf_picked ?_ ?_ ?_ ?_ ?_), ?_⟩
    rotate_left 5
    repeat (refine Ob.mk ?_ ?_; focus (first | (exact Eq.refl _) | omega))
    refine ⟨_, _, _, _, q1, ?_⟩
    repeat (refine Ob.mk ?_ ?_; focus ((exact Eq.refl _)))
    refine ⟨_, _, _, _, f1, ?_⟩
    repeat (refine Ob.mk ?_ ?_; focus ((exact Eq.refl _)))
    refine ⟨_, _, _, _, q1, ?_⟩
    repeat (refine Ob.mk ?_ ?_; focus ((exact Eq.refl _)))
    refine ⟨_, _, _, _, q2, ?_⟩
    repeat (refine Ob.mk ?_ ?_; focus ((exact Eq.refl _)))
    refine ⟨_, _, _, _, f2, ?_⟩
    repeat (refine Ob.mk ?_ ?_; focus ((exact Eq.refl _)))
    refine ⟨_, _, _, _, q2, ?_⟩
    repeat (refine Ob.mk ?_ ?_; focus ((exact Eq.refl _)))
    refine ⟨_, _, _, _, f3, ?_⟩
    repeat (refine Ob.mk ?_ ?_; focus ((exact Eq.refl _)))
    refine ⟨[0, 1, 0, 0, 15, 31, 63, 63, 127, 511], by kernel_rfl, ?_⟩
    refine ⟨_, _, _, _, q2, ?_⟩
    repeat (refine Ob.mk ?_ ?_; focus ((exact Eq.refl _)))
    refine ⟨_, _, _, _, q1, ?_⟩
    repeat (refine Ob.mk ?_ ?_; focus ((exact Eq.refl _)))
    refine ⟨_, _, _, _, f4, ?_⟩
    repeat (refine Ob.mk ?_ ?_; focus ((exact Eq.refl _)))
    refine ⟨[0, 1, 0, 0, 0, 0, 63, 127, 255, 255, 255, 0, 0, 6655, 15359, 32767], by kernel_rfl, ?_⟩
    refine ⟨_, _, _, _, q2, ?_⟩
    repeat (refine Ob.mk ?_ ?_; focus ((exact Eq.refl _)))
    refine ⟨_, _, _, _, q1, ?_⟩
    repeat (refine Ob.mk ?_ ?_; focus ((exact Eq.refl _)))
    refine ⟨_, _, _, _, f5, ?_⟩
    repeat (refine Ob.mk ?_ ?_; focus ((exact Eq.refl _)))
    refine ⟨[0, 1, 0, 0, 0, 24, 0, 127, 255, 511, 511, 0, 3071, 8191], by kernel_rfl, ?_⟩
    refine ⟨_, _, _, _, q1, ?_⟩
    repeat (refine Ob.mk ?_ ?_; focus ((exact Eq.refl _)))
    refine ⟨_, _, _, _, q2, ?_⟩
    repeat (refine Ob.mk ?_ ?_; focus ((exact Eq.refl _)))
    refine ⟨_, _, _, _, f6, ?_⟩
    repeat (refine Ob.mk ?_ ?_; focus ((exact Eq.refl _)))
    refine ⟨[0, 0, 0, 4, 12, 28, 60, 124, 252, 508, 1020, 2044, 4092, 8188, 16380, 32764, 65532, 131068, 262140, 524284, 1048572, 2097148, 4194300, 8388604, 16777212, 33554428, 33554428, 134217724, 268435452, 536870908, 1073741820, 2147483644, 4294967292, 8589934588, 17179869180, 34359738364, 68719476732, 17179869181, 154618822655, 549755813887], by kernel_rfl, ?_⟩
    repeat (refine Ob.mk ?_ ?_; (focus (first | (exact Eq.refl _) | (intro _; exact Eq.refl _) | (exact fun hg => beq_t hg) | (exact fun hg => hg) | (simp [metL, metK, makeK]; done))))
    trivial
    all_goals (omega)
  · skip
    have c1 := h1
    obtain rfl := h1
    refine ⟨_, _, _, _, (@cf_picked ?_ ?_ ?_ ?_ ?_), ?_⟩
    rotate_left 5
    repeat (refine Ob.mk ?_ ?_; focus (first | (exact Eq.refl _) | omega))
    refine ⟨_, _, _, _, (@cf_picked ?_ ?_ ?_ ?_ ?_), ?_⟩
    rotate_left 5
    repeat (refine Ob.mk ?_ ?_; focus (first | (exact Eq.refl _) | omega))
    refine ⟨_, _, _, _, q1, ?_⟩
    repeat (refine Ob.mk ?_ ?_; focus ((exact Eq.refl _)))
    refine ⟨_, _, _, _, f1, ?_⟩
    repeat (refine Ob.mk ?_ ?_; focus ((exact Eq.refl _)))
    refine ⟨_, _, _, _, q1, ?_⟩
    repeat (refine Ob.mk ?_ ?_; focus ((exact Eq.refl _)))
    refine ⟨_, _, _, _, q2, ?_⟩
    repeat (refine Ob.mk ?_ ?_; focus ((exact Eq.refl _)))
    refine ⟨_, _, _, _, f2, ?_⟩
    repeat (refine Ob.mk ?_ ?_; focus ((exact Eq.refl _)))
    refine ⟨_, _, _, _, q2, ?_⟩
    repeat (refine Ob.mk ?_ ?_; focus ((exact Eq.refl _)))
    refine ⟨_, _, _, _, f3, ?_⟩
    repeat (refine Ob.mk ?_ ?_; focus ((exact Eq.refl _)))
    refine ⟨[0, 1, 0, 0, 15, 31, 63, 63, 127, 511], by kernel_rfl, ?_⟩
    refine ⟨_, _, _, _, q2, ?_⟩
    repeat (refine Ob.mk ?_ ?_; focus ((exact Eq.refl _)))
    refine ⟨_, _, _, _, q1, ?_⟩
    repeat (refine Ob.mk ?_ ?_; focus ((exact Eq.refl _)))
    refine ⟨_, _, _, _, f4, ?_⟩
    repeat (refine Ob.mk ?_ ?_; focus ((exact Eq.refl _)))
    refine ⟨[0, 1, 0, 0, 0, 0, 63, 127, 255, 255, 255, 0, 0, 6655, 15359, 32767], by kernel_rfl, ?_⟩
    refine ⟨_, _, _, _, q2, ?_⟩
    repeat (refine Ob.mk ?_ ?_; focus ((exact Eq.refl _)))
    refine ⟨_, _, _, _, q1, ?_⟩
    repeat (refine Ob.mk ?_ ?_; focus ((exact Eq.refl _)))
    refine ⟨_, _, _, _, f5, ?_⟩
    repeat (refine Ob.mk ?_ ?_; focus ((exact Eq.refl _)))
    refine ⟨[0, 1, 0, 0, 0, 24, 0, 127, 255, 511, 511, 0, 3071, 8191], by kernel_rfl, ?_⟩
    refine ⟨_, _, _, _, q1, ?_⟩
    repeat (refine Ob.mk ?_ ?_; focus ((exact Eq.refl _)))
    refine ⟨_, _, _, _, q2, ?_⟩
    repeat (refine Ob.mk ?_ ?_; focus ((exact Eq.refl _)))
    refine ⟨_, _, _, _, f6, ?_⟩
    repeat (refine Ob.mk ?_ ?_; focus ((exact Eq.refl _)))
    refine ⟨[0, 0, 0, 4, 12, 28, 60, 124, 252, 508, 1020, 2044, 4092, 8188, 16380, 32764, 65532, 131068, 262140, 524284, 1048572, 2097148, 4194300, 8388604, 16777212, 33554428, 33554428, 134217724, 268435452, 536870908, 1073741820, 2147483644, 4294967292, 8589934588, 17179869180, 34359738364, 68719476732, 17179869181, 154618822655, 549755813887], by kernel_rfl, ?_⟩
    repeat (refine Ob.mk ?_ ?_; (focus (first | (exact Eq.refl _) | (intro _; exact Eq.refl _) | (exact fun hg => beq_t hg) | (exact fun hg => hg) | (simp [metL, metK, makeK]; done))))
    trivial
    all_goals (omega)
set_option maxRecDepth 100000 in
set_option maxHeartbeats 4000000 in
theorem cf_ShakeMeets {a b : Int} {sh : Bool} (ha : IntIn a) (hb : IntIn b) : Cf Try.prog 14 [] [.i a, .i b, .b sh] [] (.b true) := by
  have q := cf_met (sh := sh) ha hb
  have e := secS_comm (mtS sh) keys12
  refine Cf.introR tabT {} D0 (by kernel_rfl) tab_ok Try.func14 Try.ntmps14 rfl rfl (D0_ok) (by kernel_rfl) ?_
  refine ⟨_, _, _, _, q, ?_⟩
  repeat (refine Ob.mk ?_ ?_; (focus (first | (exact Eq.refl _) | (intro _; exact Eq.refl _) | (exact fun hg => beq_t hg) | (exact fun hg => hg) | (simp [metL, metK, makeK, e]; done))))
  trivial
set_option maxRecDepth 100000 in
set_option maxHeartbeats 4000000 in
theorem cf_ShakeStrict {a b at_ : Int} {y : UInt8} (ha : IntIn a) (hb : IntIn b) (hat : IntIn at_) : Cf Try.prog 16 [] [.i a, .i b, .i at_, .u8 y] [] (.b true) := by
  have a1 := pk_ge a (m := 1000) (by decide)
  have a2 := pk_lt a (m := 1000) (by decide)
  have b1 := pk_ge b (m := 1000) (by decide)
  have b2 := pk_lt b (m := 1000) (by decide)
  have m1 : 1 ≤ 1 + pk a 1000 ∧ 1 + pk a 1000 ≤ 1001 := by omega
  have m2 : 1 ≤ 1 + pk b 1000 ∧ 1 + pk b 1000 ≤ 1001 := by omega
  have hs : ([] : List UInt8) = [] ∨ hexC [] = 0 := .inl rfl
  have lv := nonV_length (keyS 1) (1 + pk a 1000)
  have f1 := mt_non1 m1
  have f2 := mt_hello hs m1
  have f5 := mt_answer hs m1 m2 (nonS_length (keyS 1) (1 + pk a 1000)) (nonS_un (keyS 1) (1 + pk a 1000))
  have f6 := mt_finishX hs m1 m2 lv at_ y
  have f7 := mt_greetsX hs m1 at_ y
  have lh := hloB_length (keyS 1) (keyS 2) [] (1 + pk a 1000) lv
  have la := ansB_length (keyS 2) (keyS 1) [] (nonS (keyS 1) (1 + pk a 1000)) (1 + pk a 1000) (1 + pk b 1000) lv
  simp only [helloE, answE] at f2 f5
  generalize hH : hloB (keyS 1) (keyS 2) [] (1 + pk a 1000) (nonV (keyS 1) (1 + pk a 1000)) = H at *
  generalize hA : ansB (keyS 2) (keyS 1) [] (nonS (keyS 1) (1 + pk a 1000)) (1 + pk a 1000) (1 + pk b 1000) (nonV (keyS 1) (1 + pk a 1000)) = A at *
  have lAd : (A.drop 8).length = 16 := by rw [List.length_drop]; omega
  have lHd : (H.drop 16).length = 16 := by rw [List.length_drop]; omega
  have lAt : (A.take 8).length = 8 := by rw [List.length_take]; omega
  have lHt : (H.take 16).length = 16 := by rw [List.length_take]; omega
  have tA := cf_TurnedO (l := A.drop 8) (y := y) (by omega) hat.1 hat.2
  have tH := cf_TurnedO (l := H.drop 16) (y := y) (by omega) hat.1 hat.2
  have uA := trn_len (A.drop 8) at_ y
  have uH := trn_len (H.drop 16) at_ y
  have cA := cf_Concat (l := A.take 8) (m := trn (A.drop 8) at_ y) (by omega) (by omega)
  have cH := cf_Concat (l := H.take 16) (m := trn (H.drop 16) at_ y) (by omega) (by omega)
  have q1 := cf_Key (n := 1) ⟨by decide, by decide⟩
  have q2 := cf_Key (n := 2) ⟨by decide, by decide⟩
  refine Cf.introR tabT {} (DR _ _ _ tabT {}) (by kernel_rfl) tab_ok Try.func16 Try.ntmps16 rfl rfl (DR_ok tab_ok (by kernel_rfl)) (by kernel_rfl) ?_
  refine ⟨_, _, _, _, (@cf_picked ?_ ?_ ?_ ?_ ?_), ?_⟩
  rotate_left 5
  repeat (refine Ob.mk ?_ ?_; focus (first | (exact Eq.refl _) | omega))
  refine ⟨_, _, _, _, (@cf_picked ?_ ?_ ?_ ?_ ?_), ?_⟩
  rotate_left 5
  repeat (refine Ob.mk ?_ ?_; focus (first | (exact Eq.refl _) | omega))
  refine ⟨_, _, _, _, q1, ?_⟩
  repeat (refine Ob.mk ?_ ?_; focus ((exact Eq.refl _)))
  refine ⟨_, _, _, _, f1, ?_⟩
  repeat (refine Ob.mk ?_ ?_; focus ((exact Eq.refl _)))
  refine ⟨_, _, _, _, q1, ?_⟩
  repeat (refine Ob.mk ?_ ?_; focus ((exact Eq.refl _)))
  refine ⟨_, _, _, _, q2, ?_⟩
  repeat (refine Ob.mk ?_ ?_; focus ((exact Eq.refl _)))
  refine ⟨_, _, _, _, f2, ?_⟩
  repeat (refine Ob.mk ?_ ?_; (focus (first | (exact Eq.refl _) | (intro _; exact Eq.refl _))))
  refine ⟨fun h1 => ?_, fun h1 => ?_⟩
  · skip
    (simp only [Int.reduceToNat, UInt8.reduceOfNat] at h1)
    have c1 := h1
    (simp only [Bool.not_eq_true', Bool.not_eq_false', Bool.not_true, Bool.not_false, Bool.and_eq_true, Bool.or_eq_true, Bool.and_eq_false_iff, Bool.or_eq_false_iff, Bool.not_not, beq_true, beq_false, decide_eq_true_eq, decide_eq_false_iff_not] at c1)
    repeat (refine Ob.mk ?_ ?_; (focus (((simp_all; done)))))
    trivial
  · skip
    (simp only [Int.reduceToNat, UInt8.reduceOfNat] at h1)
    have c1 := h1
    (simp only [Bool.not_eq_true', Bool.not_eq_false', Bool.not_true, Bool.not_false, Bool.and_eq_true, Bool.or_eq_true, Bool.and_eq_false_iff, Bool.or_eq_false_iff, Bool.not_not, beq_true, beq_false, decide_eq_true_eq, decide_eq_false_iff_not] at c1)
    refine ⟨[0, 1, 0, 0, 0, 31, 63, 127, 127, 127, 0, 0, 3327, 7679, 16383], by kernel_rfl, ?_⟩
    refine ⟨_, _, _, _, q2, ?_⟩
    repeat (refine Ob.mk ?_ ?_; focus ((exact Eq.refl _)))
    refine ⟨_, _, _, _, q1, ?_⟩
    repeat (refine Ob.mk ?_ ?_; focus ((exact Eq.refl _)))
    refine ⟨_, _, _, _, f5, ?_⟩
    repeat (refine Ob.mk ?_ ?_; (focus (first | (exact Eq.refl _) | (intro _; exact Eq.refl _))))
    refine ⟨fun h2 => ?_, fun h2 => ?_⟩
    · skip
      (simp only [Int.reduceToNat, UInt8.reduceOfNat] at h2)
      have c2 := h2
      (simp only [Bool.not_eq_true', Bool.not_eq_false', Bool.not_true, Bool.not_false, Bool.and_eq_true, Bool.or_eq_true, Bool.and_eq_false_iff, Bool.or_eq_false_iff, Bool.not_not, beq_true, beq_false, decide_eq_true_eq, decide_eq_false_iff_not] at c2)
      repeat (refine Ob.mk ?_ ?_; (focus (((simp_all; done)))))
      trivial
    · skip
      (simp only [Int.reduceToNat, UInt8.reduceOfNat] at h2)
      have c2 := h2
      (simp only [Bool.not_eq_true', Bool.not_eq_false', Bool.not_true, Bool.not_false, Bool.and_eq_true, Bool.or_eq_true, Bool.and_eq_false_iff, Bool.or_eq_false_iff, Bool.not_not, beq_true, beq_false, decide_eq_true_eq, decide_eq_false_iff_not] at c2)
      refine ⟨[0, 1, 3, 0, 8, 24, 0, 0, 248, 511, 1023, 2047, 4095], by kernel_rfl, ?_⟩
      repeat (refine Ob.mk ?_ ?_; focus (omega))
      refine ⟨_, _, _, _, tA, ?_⟩
      repeat (refine Ob.mk ?_ ?_; focus ((exact Eq.refl _)))
      refine ⟨_, _, _, _, cA, ?_⟩
      repeat (refine Ob.mk ?_ ?_; focus ((exact Eq.refl _)))
      refine ⟨[0, 1, 0, 0, 12, 0, 63, 127, 255, 255, 0, 1535, 4095], by kernel_rfl, ?_⟩
      refine ⟨_, _, _, _, q1, ?_⟩
      repeat (refine Ob.mk ?_ ?_; focus ((exact Eq.refl _)))
      refine ⟨_, _, _, _, q2, ?_⟩
      repeat (refine Ob.mk ?_ ?_; focus ((exact Eq.refl _)))
      refine ⟨_, _, _, _, f6, ?_⟩
      repeat (refine Ob.mk ?_ ?_; focus ((exact Eq.refl _)))
      refine ⟨[0, 1, 3, 0, 8, 24, 0, 0, 248, 511, 1023, 2047, 4095], by kernel_rfl, ?_⟩
      repeat (refine Ob.mk ?_ ?_; focus (omega))
      refine ⟨_, _, _, _, tH, ?_⟩
      repeat (refine Ob.mk ?_ ?_; focus ((exact Eq.refl _)))
      refine ⟨_, _, _, _, cH, ?_⟩
      repeat (refine Ob.mk ?_ ?_; focus ((exact Eq.refl _)))
      refine ⟨[0, 1, 0, 7, 15, 31, 31, 63, 255], by kernel_rfl, ?_⟩
      refine ⟨_, _, _, _, q2, ?_⟩
      repeat (refine Ob.mk ?_ ?_; focus ((exact Eq.refl _)))
      refine ⟨_, _, _, _, q1, ?_⟩
      repeat (refine Ob.mk ?_ ?_; focus ((exact Eq.refl _)))
      refine ⟨_, _, _, _, f7, ?_⟩
      repeat (refine Ob.mk ?_ ?_; (focus (first | (exact Eq.refl _) | (intro _; exact Eq.refl _))))
      trivial
  all_goals (omega)
set_option maxRecDepth 100000 in
set_option maxHeartbeats 4000000 in
theorem cf_ShakeIdle {a b o : Int} (ha : IntIn a) (hb : IntIn b) (ho : IntIn o) : Cf Try.prog 15 [] [.i a, .i b, .i o] [] (.b true) := by
  have a1 := pk_ge a (m := 1000) (by decide)
  have a2 := pk_lt a (m := 1000) (by decide)
  have b1 := pk_ge b (m := 1000) (by decide)
  have b2 := pk_lt b (m := 1000) (by decide)
  have o1 := pk_ge o (m := 1000) (by decide)
  have o2 := pk_lt o (m := 1000) (by decide)
  have m1 : 1 ≤ 1 + pk a 1000 ∧ 1 + pk a 1000 ≤ 1001 := by omega
  have m2 : 1 ≤ 1 + pk b 1000 ∧ 1 + pk b 1000 ≤ 1001 := by omega
  have hs : ([] : List UInt8) = [] ∨ hexC [] = 0 := .inl rfl
  have lv := nonV_length (keyS 1) (1 + pk a 1000)
  have f1 := mt_non1 m1
  have f2 := mt_hello hs m1
  have f5 := mt_answer hs m1 m2 (nonS_length (keyS 1) (1 + pk a 1000)) (nonS_un (keyS 1) (1 + pk a 1000))
  have f6 := mt_finishI (h := []) (live := false) (hm := 0) hs m1 m2 lv (fun h => by cases h) (.inl rfl)
  have f7 := mt_finishI (h := nonS (keyS 1) (1 + pk a 1000)) (live := true) (hm := 2000 + pk o 1000) hs m1 m2 lv (fun _ => nonS_length _ _) (.inr (by omega))
  have f8 := mt_finishK (s := []) (h := nonS (keyS 1) (1 + pk a 1000)) (live := true) (hm := 1 + pk a 1000) m1
  have q1 := cf_Key (n := 1) ⟨by decide, by decide⟩
  have q2 := cf_Key (n := 2) ⟨by decide, by decide⟩
  refine Cf.introR tabT {} (DR _ _ _ tabT {}) (by kernel_rfl) tab_ok Try.func15 Try.ntmps15 rfl rfl (DR_ok tab_ok (by kernel_rfl)) (by kernel_rfl) ?_
  refine ⟨_, _, _, _, (@cf_picked ?_ ?_ ?_ ?_ ?_), ?_⟩
  rotate_left 5
  repeat (refine Ob.mk ?_ ?_; focus (first | (exact Eq.refl _) | omega))
  refine ⟨_, _, _, _, (@cf_picked ?_ ?_ ?_ ?_ ?_), ?_⟩
  rotate_left 5
  repeat (refine Ob.mk ?_ ?_; focus (first | (exact Eq.refl _) | omega))
  refine ⟨_, _, _, _, (@cf_picked ?_ ?_ ?_ ?_ ?_), ?_⟩
  rotate_left 5
  repeat (refine Ob.mk ?_ ?_; focus (first | (exact Eq.refl _) | omega))
  refine ⟨_, _, _, _, q1, ?_⟩
  repeat (refine Ob.mk ?_ ?_; focus ((exact Eq.refl _)))
  refine ⟨_, _, _, _, f1, ?_⟩
  repeat (refine Ob.mk ?_ ?_; focus ((exact Eq.refl _)))
  refine ⟨_, _, _, _, q1, ?_⟩
  repeat (refine Ob.mk ?_ ?_; focus ((exact Eq.refl _)))
  refine ⟨_, _, _, _, q2, ?_⟩
  repeat (refine Ob.mk ?_ ?_; focus ((exact Eq.refl _)))
  refine ⟨_, _, _, _, f2, ?_⟩
  repeat (refine Ob.mk ?_ ?_; focus ((exact Eq.refl _)))
  refine ⟨[0, 1, 0, 0, 0, 31, 63, 127, 127, 127, 0, 0, 3327, 7679, 16383], by kernel_rfl, ?_⟩
  refine ⟨_, _, _, _, q2, ?_⟩
  repeat (refine Ob.mk ?_ ?_; focus ((exact Eq.refl _)))
  refine ⟨_, _, _, _, q1, ?_⟩
  repeat (refine Ob.mk ?_ ?_; focus ((exact Eq.refl _)))
  refine ⟨_, _, _, _, f5, ?_⟩
  repeat (refine Ob.mk ?_ ?_; focus ((exact Eq.refl _)))
  refine ⟨[0, 1, 0, 0, 15, 31, 63, 63, 0, 383, 1023], by kernel_rfl, ?_⟩
  refine ⟨_, _, _, _, q1, ?_⟩
  repeat (refine Ob.mk ?_ ?_; focus ((exact Eq.refl _)))
  refine ⟨_, _, _, _, q2, ?_⟩
  repeat (refine Ob.mk ?_ ?_; focus ((exact Eq.refl _)))
  refine ⟨_, _, _, _, f6, ?_⟩
  repeat (refine Ob.mk ?_ ?_; focus ((exact Eq.refl _)))
  refine ⟨[0, 1, 0, 0, 12, 0, 63, 127, 255, 255, 0, 1535, 4095], by kernel_rfl, ?_⟩
  refine ⟨_, _, _, _, q1, ?_⟩
  repeat (refine Ob.mk ?_ ?_; focus ((exact Eq.refl _)))
  refine ⟨_, _, _, _, q2, ?_⟩
  repeat (refine Ob.mk ?_ ?_; focus ((exact Eq.refl _)))
  refine ⟨_, _, _, _, f7, ?_⟩
  repeat (refine Ob.mk ?_ ?_; focus ((exact Eq.refl _)))
  refine ⟨[0, 1, 0, 0, 12, 0, 63, 127, 255, 255, 0, 1535, 4095], by kernel_rfl, ?_⟩
  refine ⟨_, _, _, _, q1, ?_⟩
  repeat (refine Ob.mk ?_ ?_; focus ((exact Eq.refl _)))
  refine ⟨_, _, _, _, q2, ?_⟩
  repeat (refine Ob.mk ?_ ?_; focus ((exact Eq.refl _)))
  refine ⟨_, _, _, _, f8, ?_⟩
  repeat (refine Ob.mk ?_ ?_; (focus (first | (exact Eq.refl _) | (intro _; exact Eq.refl _))))
  trivial
  all_goals (omega)
end Go.Proofs.Ytpcagbfnddgjpaa
