/- Settings as lines of texts, plainly. It names no function of the program. -/
import Derived.Test.YtfpglljpngiipaaDoorAddrF
import Derived.Test.YtfpglljpngiipaaDoorHexF
import Derived.Test.YtfpglljpngiipaaDoorTrieN
namespace Go.Proofs.YtfpglljpngiipaaDoor
open Go.Lib
set_option linter.unusedVariables false
set_option linter.unusedSimpArgs false

def zs64 : List UInt8 := List.replicate 64 48
/-- A setting: its kind, text, number and net. -/
structure SetS where
  k : Int
  t : List UInt8
  n : Int
  p : List Bool
  deriving Inhabited, DecidableEq
/-- An address and a port behind it. -/
def endA (s : List UInt8) : List UInt8 := if (58 : UInt8) ∈ s then bef 58 s else s
def endP (s : List UInt8) : List UInt8 := if (58 : UInt8) ∈ s then aft 58 s else []
def endE (s : List UInt8) : Int := if (58 : UInt8) ∈ s ∧ (adrR (endA s)).2 = 0 ∧ smE (endP s) 65535 = true ∧ smN (endP s) ≠ 0 then 0 else 3
def set0 : SetS := ⟨0, [], 0, []⟩
theorem dig_okV : ∀ c : UInt8, isD c = true → okV c = true := by
  intro c h
  unfold isD at h; unfold okV
  rw [Bool.and_eq_true, decide_eq_true_eq, decide_eq_true_eq] at h
  rw [decide_eq_true (by omega), decide_eq_true (by omega)]; rfl
theorem dec_okV (u : Nat) : (decDigits u).all okV = true := by
  have := dec_all u
  rw [List.all_eq_true] at this ⊢
  exact fun c hc => dig_okV c (this c hc)
theorem adrT_okV (a : Nat) : (adrT a).all okV = true := by
  unfold adrT
  rw [join_cons2, join_cons2, join_cons2, join_one]
  simp only [List.all_append, dec_okV]; decide
theorem endE_okV {t : List UInt8} (h : endE t = 0) : t.all okV = true ∧ t.length ≤ 21 := by
  unfold endE at h
  split at h
  · rename_i k
    obtain ⟨k1, k2, k3, k4⟩ := k
    unfold endA at k2
    unfold endP at k3
    rw [if_pos k1] at k2 k3
    have e := bef_aft k1
    obtain ⟨a1, a2⟩ := adr_turns k2
    obtain ⟨b1, b2, b3⟩ := sm_ok k3
    rw [← e, ← a1, ← dec_back b1]
    refine ⟨by rw [List.all_append, List.all_cons, adrT_okV, dec_okV]; rfl, ?_⟩
    have := adrT_len (adrR (bef 58 t)).1
    have := dec_len (u := decV 0 (aft 58 t)) (numOk_lt b1)
    rw [List.length_append, List.length_cons]; omega
  · cases h
end Go.Proofs.YtfpglljpngiipaaDoor
