/- package keys: sealing and opening, whatever the outcome; the keys of both ends. -/
import Derived.Test.YtcebndkiagbddaaDoorCKeys
import Derived.Test.YtcebndkiagbddaaDoorCKey
namespace Go.Proofs.YtcebndkiagbddaaDoor
open Go.RowKit
set_option linter.unusedVariables false
set_option linter.unusedSimpArgs false

def KS.z : KS := ⟨false, [], [], 0, 0, 0, 0, false, 0, UInt64.ofNat 0, false⟩
def KS.slK (k : KS) (now : Int) (b : List UInt8) : KS := if k.slE now b = 0 then { k with cnt := k.cnt + 1 } else KS.z
def KS.slR (k : KS) (now : Int) (b : List UInt8) : List UInt8 := if k.slE now b = 0 then sealR k.send k.cnt b else []
def KS.opK (k : KS) (now c : Int) (b : List UInt8) : KS := if k.opE now c b = 0 then { k with sn := wnTkS k.sn k.la k.bi c, la := wnTkL k.sn k.la k.bi c, bi := wnTkB k.sn k.la k.bi c } else KS.z
def KS.opR (k : KS) (now c : Int) (b : List UInt8) : List UInt8 := if k.opE now c b = 0 then openR k.take c b else []
def hellW : List UInt8 := [48, 49, 50, 51, 52, 53, 54, 55, 56, 57, 97, 98, 99, 100, 101, 102]
def answW : List UInt8 := [102, 101, 100, 99, 98, 97, 57, 56, 55, 54, 53, 52, 51, 50, 49, 48]
def talkX (a b now : Int) : KS := makeK (keyS 0) hellW answW true (1 + pk a 100) (101 + pk b 100) now
def talkY (a b now : Int) : KS := makeK (keyS 0) hellW answW false (101 + pk b 100) (1 + pk a 100) now
set_option maxRecDepth 100000 in
set_option maxHeartbeats 4000000 in
theorem cf_talk {a b now : Int} (ha : IntIn a) (hb : IntIn b) (h0 : 0 ≤ now) (h1 : now ≤ 1099511627776) : Cf Tryd.prog 5 [] [.i a, .i b, .i now] [] (.tup [(talkX a b now).ev, (talkY a b now).ev, .b true]) := by
  have hK := cf_Key (n := 0) ⟨by decide, by decide⟩
  have hk := keyS_ok 0
  have a1 := pk_ge a (m := 100) (by decide)
  have a2 := pk_lt a (m := 100) (by decide)
  have b1 := pk_ge b (m := 100) (by decide)
  have b2 := pk_lt b (m := 100) (by decide)
  have m1 := cf_kyMake (h := hellW) (a := answW) (fs := true) (mine := 1 + pk a 100) (theirs := 101 + pk b 100) (now := now) hk rfl rfl (by omega) (by omega) (by omega)
  have m2 := cf_kyMake (h := hellW) (a := answW) (fs := false) (mine := 101 + pk b 100) (theirs := 1 + pk a 100) (now := now) hk rfl rfl (by omega) (by omega) (by omega)
  refine Cf.introR tabT {} (DR _ _ _ tabT {}) (by kernel_rfl) tab_ok Tryd.func5 Tryd.ntmps5 rfl rfl (DR_ok tab_ok (by kernel_rfl)) (by kernel_rfl) ?_
  refine ⟨_, _, _, _, hK, ?_⟩
  repeat (refine Ob.mk ?_ ?_; focus ((exact Eq.refl _)))
  refine ⟨_, _, _, _, (@cf_picked ?_ ?_ ?_ ?_ ?_), ?_⟩
  rotate_left 5
  repeat (refine Ob.mk ?_ ?_; focus (first | (exact Eq.refl _) | omega))
  refine ⟨_, _, _, _, (@cf_picked ?_ ?_ ?_ ?_ ?_), ?_⟩
  rotate_left 5
  repeat (refine Ob.mk ?_ ?_; focus (first | (exact Eq.refl _) | omega))
  refine ⟨_, _, _, _, m1, ?_⟩
  repeat (refine Ob.mk ?_ ?_; focus ((exact Eq.refl _)))
  refine ⟨_, _, _, _, hK, ?_⟩
  repeat (refine Ob.mk ?_ ?_; focus ((exact Eq.refl _)))
  refine ⟨_, _, _, _, (@cf_picked ?_ ?_ ?_ ?_ ?_), ?_⟩
  rotate_left 5
  repeat (refine Ob.mk ?_ ?_; focus (first | (exact Eq.refl _) | omega))
  refine ⟨_, _, _, _, (@cf_picked ?_ ?_ ?_ ?_ ?_), ?_⟩
  rotate_left 5
  repeat (refine Ob.mk ?_ ?_; focus (first | (exact Eq.refl _) | omega))
  refine ⟨_, _, _, _, m2, ?_⟩
  repeat (refine Ob.mk ?_ ?_; focus ((exact Eq.refl _)))
  refine ⟨[0, 0, 0, 4, 12, 28, 60, 124, 252, 508, 1020, 2044, 4092, 8188, 16380, 8188, 40956, 131068, 262140, 524284, 1048572, 2097148, 1048572, 5242876, 16777212, 33554428, 1048573, 68157439, 268435455], by kernel_rfl, ?_⟩
  repeat (refine Ob.mk ?_ ?_; (focus (first | (exact Eq.refl _) | (intro _; exact Eq.refl _) | (exact fun hg => beq_t hg) | (exact fun hg => hg) | (simp [makeK]; done))))
  trivial
  all_goals (omega)
section
variable {a b now : Int}
theorem talk_ends (a b now : Int) : (talkY a b now).take = (talkX a b now).send ∧ (talkY a b now).send = (talkX a b now).take := ⟨rfl, rfl⟩
theorem talk_keys (a b now : Int) : hexC (talkX a b now).send = 0 ∧ hexC (talkX a b now).take = 0 := ⟨derS_key _ _, derS_key _ _⟩
theorem talkX_ck (a b : Int) (h0 : 0 ≤ now) (h1 : now ≤ 1099511627776) : (talkX a b now).ck = 0 := by
  have a1 := pk_ge a (m := 100) (by decide); have a2 := pk_lt a (m := 100) (by decide)
  have b1 := pk_ge b (m := 100) (by decide); have b2 := pk_lt b (m := 100) (by decide)
  exact makeK_ck (by omega) (by omega) (by omega)
theorem talkY_ck (a b : Int) (h0 : 0 ≤ now) (h1 : now ≤ 1099511627776) : (talkY a b now).ck = 0 := by
  have a1 := pk_ge a (m := 100) (by decide); have a2 := pk_lt a (m := 100) (by decide)
  have b1 := pk_ge b (m := 100) (by decide); have b2 := pk_lt b (m := 100) (by decide)
  exact makeK_ck (by omega) (by omega) (by omega)
theorem wnTk_new {c : Int} (h : 0 ≤ c) (h2 : c ≤ 1099511627776) : wnTkE false 0 (UInt64.ofNat 0) c = 0 := by
  have e1 : wnHasE false 0 (UInt64.ofNat 0) c = 0 := by unfold wnHasE; rw [if_neg (fun q => q wnCk_new), if_neg (by omega)]
  have e2 : wnHas false 0 (UInt64.ofNat 0) c = false := by unfold wnHas; rw [if_neg (fun q => q wnCk_new), if_neg (by omega), if_pos (.inl rfl)]
  unfold wnTkE
  rw [if_neg (fun q => q e1), e2]; rfl
theorem KS.fresh_is {k : KS} {now : Int} (h : k.ck = 0) (hl : k.live = true) (h2 : k.cnt < 1099511627776) (h3 : k.born ≤ now) (h4 : now - k.born < 180) : k.fresh now = true := by
  unfold KS.fresh; simp [h, hl, h2, h3, h4]
theorem KS.fresh_no {k : KS} {now : Int} (h4 : 180 ≤ now - k.born) : k.fresh now = false := by
  unfold KS.fresh; rw [decide_eq_false (by omega : ¬ now - k.born < 180), Bool.and_false]
end
end Go.Proofs.YtcebndkiagbddaaDoor
