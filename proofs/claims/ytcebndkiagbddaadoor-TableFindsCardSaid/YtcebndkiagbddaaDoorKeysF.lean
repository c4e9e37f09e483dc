/- What package keys computes, in plain words. It names no function of the program. -/
import Derived.Test.YtcebndkiagbddaaDoorWinG
import Derived.Test.YtcebndkiagbddaaDoorSealF
namespace Go.Proofs.YtcebndkiagbddaaDoor
set_option linter.unusedVariables false
set_option linter.unusedSimpArgs false

/-- Keys of a session. -/
structure KS where
  live : Bool
  send : List UInt8
  take : List UInt8
  mine : Int
  theirs : Int
  born : Int
  cnt : Int
  sn : Bool
  la : Int
  bi : UInt64
  first : Bool
abbrev KS.ev (k : KS) : EV := .agg [.b k.live, .s k.send, .s k.take, .i k.mine, .i k.theirs, .i k.born, .i k.cnt, .b k.sn, .i k.la, .u64 k.bi, .b k.first]
abbrev kz : EV := .agg [.b false, .s [], .s [], .i 0, .i 0, .i 0, .i 0, .b false, .i 0, .u64 (UInt64.ofNat 0), .b false]
def KS.rng (k : KS) : Prop := ((((((k.mine < 1 ∨ 4294967295 < k.mine) ∨ k.theirs < 1) ∨ 4294967295 < k.theirs) ∨ k.born < 0) ∨ 1099511627776 < k.born) ∨ k.cnt < 0) ∨ 1099511627776 < k.cnt
instance (k : KS) : Decidable k.rng := by unfold KS.rng; infer_instance
def KS.zero (k : KS) : Prop := k.live = false ∧ k.send = [] ∧ k.take = [] ∧ k.mine = 0 ∧ k.theirs = 0 ∧ k.born = 0 ∧ k.cnt = 0 ∧ k.sn = false ∧ k.la = 0 ∧ k.bi = UInt64.ofNat 0 ∧ k.first = false
instance (k : KS) : Decidable k.zero := by unfold KS.zero; infer_instance
def KS.ck (k : KS) : Int :=
  if k.live = false then (if k.zero then 0 else 14)
  else if ¬ hexC k.send = 0 then hexC k.send else if ¬ hexC k.take = 0 then hexC k.take else if k.rng then 4 else wnCk k.sn k.la k.bi
theorem KS.ck_14 {k : KS} (h : k.live = false) (h2 : k.live = true ∨ ¬k.send = [] ∨ ¬k.take = [] ∨ ¬k.mine = 0 ∨ ¬k.theirs = 0 ∨ ¬k.born = 0 ∨ ¬k.cnt = 0 ∨ k.sn = true ∨ ¬k.la = 0 ∨ ¬k.bi = UInt64.ofNat 0 ∨ k.first = true) : 14 = k.ck := by
  unfold KS.ck
  rw [if_pos h, if_neg]
  rintro ⟨a1, a2, a3, a4, a5, a6, a7, a8, a9, a10, a11⟩
  rcases h2 with h2 | h2 | h2 | h2 | h2 | h2 | h2 | h2 | h2 | h2 | h2
  · rw [h] at h2; cases h2
  · exact h2 a2
  · exact h2 a3
  · exact h2 a4
  · exact h2 a5
  · exact h2 a6
  · exact h2 a7
  · rw [a8] at h2; cases h2
  · exact h2 a9
  · exact h2 a10
  · rw [a11] at h2; cases h2
theorem KS.ck_0 {k : KS} (h : k.live = false) (h2 : k.live = false ∧ k.send = [] ∧ k.take = [] ∧ k.mine = 0 ∧ k.theirs = 0 ∧ k.born = 0 ∧ k.cnt = 0 ∧ k.sn = false ∧ k.la = 0 ∧ k.bi = UInt64.ofNat 0 ∧ k.first = false) : 0 = k.ck := by
  unfold KS.ck; rw [if_pos h, if_pos (c := k.zero) h2]
theorem KS.live_ne {k : KS} (h : k.live = true) : ¬ k.live = false := fun q => by rw [h] at q; cases q
theorem KS.ck_s {k : KS} (h : k.live = true) (h2 : ¬ hexC k.send = 0) : hexC k.send = k.ck := by
  unfold KS.ck; rw [if_neg (live_ne h), if_pos h2]
theorem KS.ck_t {k : KS} (h : k.live = true) (h2 : hexC k.send = 0) (h3 : ¬ hexC k.take = 0) : hexC k.take = k.ck := by
  unfold KS.ck; rw [if_neg (live_ne h), if_neg (fun q => q h2), if_pos h3]
theorem KS.ck_r {k : KS} (h : k.live = true) (h2 : hexC k.send = 0) (h3 : hexC k.take = 0) (h4 : k.rng) : 4 = k.ck := by
  unfold KS.ck; rw [if_neg (live_ne h), if_neg (fun q => q h2), if_neg (fun q => q h3), if_pos h4]
theorem KS.ck_w {k : KS} (h : k.live = true) (h2 : hexC k.send = 0) (h3 : hexC k.take = 0) (h4 : ((((((¬k.mine < 1 ∧ ¬4294967295 < k.mine) ∧ ¬k.theirs < 1) ∧ ¬4294967295 < k.theirs) ∧ ¬k.born < 0) ∧ ¬1099511627776 < k.born) ∧ ¬k.cnt < 0) ∧ ¬1099511627776 < k.cnt) : wnCk k.sn k.la k.bi = k.ck := by
  unfold KS.ck; rw [if_neg (live_ne h), if_neg (fun q => q h2), if_neg (fun q => q h3), if_neg]
  unfold KS.rng; omega
def KS.fresh (k : KS) (now : Int) : Bool := decide (k.ck = 0) && k.live && decide (k.cnt < 1099511627776) && decide (k.born ≤ now) && decide (now - k.born < 180)
theorem KS.fresh_ok {k : KS} {now : Int} (h : k.fresh now = true) : k.ck = 0 ∧ k.live = true ∧ k.cnt < 1099511627776 ∧ k.born ≤ now ∧ now - k.born < 180 := by
  unfold KS.fresh at h
  simp only [Bool.and_eq_true, decide_eq_true_eq] at h
  exact ⟨h.1.1.1.1, h.1.1.1.2, h.1.1.2, h.1.2, h.2⟩
theorem KS.fresh_le {k : KS} {now : Int} (h : ((!k.fresh now) == false) = true) : k.born ≤ now := by
  have : k.fresh now = true := by cases hf : k.fresh now <;> simp [hf] at h ⊢
  exact (fresh_ok this).2.2.2.1
theorem KS.ck_ok {k : KS} (h : k.ck = 0) (hl : k.live = true) : hexC k.send = 0 ∧ hexC k.take = 0 ∧ ¬ k.rng ∧ wnCk k.sn k.la k.bi = 0 := by
  unfold KS.ck at h
  rw [if_neg (live_ne hl)] at h
  by_cases h1 : hexC k.send = 0
  · rw [if_neg (fun q => q h1)] at h
    by_cases h2 : hexC k.take = 0
    · rw [if_neg (fun q => q h2)] at h
      by_cases h3 : k.rng
      · rw [if_pos h3] at h; cases h
      · rw [if_neg h3] at h; exact ⟨h1, h2, h3, h⟩
    · rw [if_pos h2] at h; exact absurd h h2
  · rw [if_pos h1] at h; exact absurd h h1
theorem KS.ck_born {k : KS} (h : k.ck = 0) : 0 ≤ k.born ∧ k.born ≤ 1099511627776 ∧ 0 ≤ k.cnt ∧ k.cnt ≤ 1099511627776 := by
  cases hl : k.live with
  | true => have := (ck_ok h hl).2.2.1; unfold KS.rng at this; omega
  | false =>
    unfold KS.ck at h
    rw [if_pos hl] at h
    by_cases hz : k.zero
    · obtain ⟨a1, a2, a3, a4, a5, a6, a7, a8, a9, a10, a11⟩ := hz; omega
    · rw [if_neg hz] at h; cases h
/-- Why bytes are not sealed, or not opened. -/
def KS.slE (k : KS) (now : Int) (b : List UInt8) : Int := if ¬ k.ck = 0 then k.ck else if k.fresh now = false then 13 else sealE k.send k.cnt b
def KS.late (k : KS) (now : Int) : Prop := (k.live = false ∨ now < k.born) ∨ 180 ≤ now - k.born
instance (k : KS) (now : Int) : Decidable (k.late now) := by unfold KS.late; infer_instance
def KS.opE (k : KS) (now c : Int) (b : List UInt8) : Int :=
  if ¬ k.ck = 0 then k.ck else if k.late now then 13 else if ¬ openE k.take c b = 0 then openE k.take c b else wnTkE k.sn k.la k.bi c
theorem KS.slE_ok {k : KS} {now : Int} {b : List UInt8} (h : k.slE now b = 0) : k.ck = 0 ∧ k.fresh now = true ∧ sealE k.send k.cnt b = 0 := by
  unfold KS.slE at h
  by_cases h1 : k.ck = 0
  · rw [if_neg (fun q => q h1)] at h
    by_cases h2 : k.fresh now = false
    · rw [if_pos h2] at h; cases h
    · rw [if_neg h2] at h; exact ⟨h1, by simpa using h2, h⟩
  · rw [if_pos h1] at h; exact absurd h h1
theorem KS.opE_ok {k : KS} {now c : Int} {b : List UInt8} (h : k.opE now c b = 0) : k.ck = 0 ∧ ¬ k.late now ∧ openE k.take c b = 0 ∧ wnTkE k.sn k.la k.bi c = 0 := by
  unfold KS.opE at h
  by_cases h1 : k.ck = 0
  · rw [if_neg (fun q => q h1)] at h
    by_cases h2 : k.late now
    · rw [if_pos h2] at h; cases h
    · rw [if_neg h2] at h
      by_cases h3 : openE k.take c b = 0
      · rw [if_neg (fun q => q h3)] at h; exact ⟨h1, h2, h3, h⟩
      · rw [if_pos h3] at h; exact absurd h h3
  · rw [if_pos h1] at h; exact absurd h h1
theorem KS.slE_1 {k : KS} {now : Int} {b : List UInt8} (h : ¬ k.ck = 0) : k.ck = k.slE now b := by unfold KS.slE; rw [if_pos h]
theorem KS.slE_2 {k : KS} {now : Int} {b : List UInt8} (h : k.ck = 0) (h2 : k.fresh now = false) : 13 = k.slE now b := by
  unfold KS.slE; rw [if_neg (fun q => q h), if_pos h2]
theorem KS.slE_3 {k : KS} {now : Int} {b : List UInt8} (h : k.ck = 0) (h2 : k.fresh now = true) : sealE k.send k.cnt b = k.slE now b := by
  unfold KS.slE; rw [if_neg (fun q => q h), if_neg (by rw [h2]; decide)]
theorem KS.opE_1 {k : KS} {now c : Int} {b : List UInt8} (h : ¬ k.ck = 0) : k.ck = k.opE now c b := by unfold KS.opE; rw [if_pos h]
theorem KS.opE_2 {k : KS} {now c : Int} {b : List UInt8} (h : k.ck = 0) (h2 : k.late now) : 13 = k.opE now c b := by
  unfold KS.opE; rw [if_neg (fun q => q h), if_pos h2]
theorem KS.opE_3 {k : KS} {now c : Int} {b : List UInt8} (h : k.ck = 0) (h2 : ¬ k.late now) (h3 : ¬ openE k.take c b = 0) : openE k.take c b = k.opE now c b := by
  unfold KS.opE; rw [if_neg (fun q => q h), if_neg h2, if_pos h3]
theorem KS.opE_4 {k : KS} {now c : Int} {b : List UInt8} (h : k.ck = 0) (h2 : ¬ k.late now) (h3 : openE k.take c b = 0) : wnTkE k.sn k.la k.bi c = k.opE now c b := by
  unfold KS.opE; rw [if_neg (fun q => q h), if_neg h2, if_neg (fun q => q h3)]
theorem KS.late_not {k : KS} {now : Int} (h : (k.live = true ∧ ¬ now < k.born) ∧ ¬ 180 ≤ now - k.born) : ¬ k.late now := by
  unfold KS.late
  rintro ((q | q) | q)
  · rw [h.1.1] at q; cases q
  · exact h.1.2 q
  · exact h.2 q
def thereW : List UInt8 := [116, 104, 101, 114, 101]
def backW : List UInt8 := [98, 97, 99, 107]
/-- Keys of a secret and of both nonces. -/
def makeK (s h a : List UInt8) (fs : Bool) (mine theirs now : Int) : KS :=
  { live := true, send := bif fs then derS s (thereW ++ h ++ a) else derS s (backW ++ h ++ a), take := bif fs then derS s (backW ++ h ++ a) else derS s (thereW ++ h ++ a),
    mine := mine, theirs := theirs, born := now, cnt := 0, sn := false, la := 0, bi := UInt64.ofNat 0, first := fs }
theorem wnCk_new : wnCk false 0 (UInt64.ofNat 0) = 0 := by unfold wnCk; rw [if_pos rfl, if_pos ⟨rfl, rfl, rfl⟩]
theorem makeK_ck {s h a : List UInt8} {fs : Bool} {mine theirs now : Int} (h1 : 1 ≤ mine ∧ mine ≤ 4294967295) (h2 : 1 ≤ theirs ∧ theirs ≤ 4294967295) (h3 : 0 ≤ now ∧ now ≤ 1099511627776) : (makeK s h a fs mine theirs now).ck = 0 := by
  refine (KS.ck_w (k := makeK s h a fs mine theirs now) rfl ?_ ?_ ?_).symm.trans wnCk_new
  · cases fs <;> exact derS_key _ _
  · cases fs <;> exact derS_key _ _
  · simp only [makeK]; omega
end Go.Proofs.YtcebndkiagbddaaDoor
