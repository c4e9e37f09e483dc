/- What both ends say to one another, text by text; in plain words. It names no function of the program. -/
import Derived.Test.YtpcagbfnddgjpaaKeysF
namespace Go.Proofs.Ytpcagbfnddgjpaa
set_option linter.unusedVariables false
set_option linter.unusedSimpArgs false

def wdS (i : Nat) : Bool := Nat.blt 0 i
def wdL (last : Bool) (n i : Nat) : Int := match i with
  | 0 => 0
  | i + 1 => bif last then (n : Int) - 1 else i
def wdB (i : Nat) : UInt64 := UInt64.ofNat (2 ^ i - 1)
def wdK (last : Bool) (n i : Nat) : Nat := bif last then n - 1 - i else i
theorem wd_fin : ∀ last : Bool, ∀ n : Fin 11, ∀ i : Fin 11, i.1 < n.1 → wnTkE (wdS i) (wdL last n i) (wdB i) (wdK last n i : Nat) = 0 ∧ wnTkS (wdS i) (wdL last n i) (wdB i) (wdK last n i : Nat) = wdS (i.1 + 1) ∧
    wnTkL (wdS i) (wdL last n i) (wdB i) (wdK last n i : Nat) = wdL last n (i.1 + 1) ∧ wnTkB (wdS i) (wdL last n i) (wdB i) (wdK last n i : Nat) = wdB (i.1 + 1) ∧
    wnTkE (wdS (i.1 + 1)) (wdL last n (i.1 + 1)) (wdB (i.1 + 1)) (wdK last n i : Nat) = 10 ∧ wnCk (wdS i) (wdL last n i) (wdB i) = 0 ∧ wnCk (wdS (i.1 + 1)) (wdL last n (i.1 + 1)) (wdB (i.1 + 1)) = 0 := by decide +kernel
theorem wd_at (last : Bool) {n i : Nat} (hn : n ≤ 10) (hi : i < n) : wnTkE (wdS i) (wdL last n i) (wdB i) (wdK last n i : Nat) = 0 ∧ wnTkS (wdS i) (wdL last n i) (wdB i) (wdK last n i : Nat) = wdS (i + 1) ∧
    wnTkL (wdS i) (wdL last n i) (wdB i) (wdK last n i : Nat) = wdL last n (i + 1) ∧ wnTkB (wdS i) (wdL last n i) (wdB i) (wdK last n i : Nat) = wdB (i + 1) ∧
    wnTkE (wdS (i + 1)) (wdL last n (i + 1)) (wdB (i + 1)) (wdK last n i : Nat) = 10 ∧ wnCk (wdS i) (wdL last n i) (wdB i) = 0 ∧ wnCk (wdS (i + 1)) (wdL last n (i + 1)) (wdB (i + 1)) = 0 := wd_fin last ⟨n, by omega⟩ ⟨i, by omega⟩ hi
theorem wdK_lt (last : Bool) {n i : Nat} (hi : i < n) : wdK last n i < n := by
  unfold wdK; cases last <;> simp only [cond_true, cond_false] <;> omega
def KS.good (k : KS) : Prop := k.ck = 0 ∧ k.live = true ∧ k.born = 10 ∧ k.cnt = 0
/-- Keys by which i texts were sealed, or opened. -/
def KS.sI (k : KS) (i : Nat) : KS := { k with cnt := (i : Int) }
def KS.oI (k : KS) (last : Bool) (n i : Nat) : KS := { k with sn := wdS i, la := wdL last n i, bi := wdB i }
theorem KS.sI_ck {k : KS} (h : k.good) {i : Nat} (hi : i ≤ 10) : (k.sI i).ck = 0 := by
  obtain ⟨e1, e2, e3, e4⟩ := ck_ok h.1 h.2.1
  refine (ck_w (k := k.sI i) h.2.1 e1 e2 ?_).symm.trans e4
  unfold KS.rng at e3
  show ((((((¬k.mine < 1 ∧ ¬4294967295 < k.mine) ∧ ¬k.theirs < 1) ∧ ¬4294967295 < k.theirs) ∧ ¬k.born < 0) ∧ ¬1099511627776 < k.born) ∧ ¬(i : Int) < 0) ∧ ¬1099511627776 < (i : Int)
  omega
theorem KS.oI_ck {k : KS} (h : k.good) (last : Bool) {n i : Nat} (hw : wnCk (wdS i) (wdL last n i) (wdB i) = 0) : (k.oI last n i).ck = 0 := by
  obtain ⟨e1, e2, e3, e4⟩ := ck_ok h.1 h.2.1
  refine (ck_w (k := k.oI last n i) h.2.1 e1 e2 ?_).symm.trans hw
  unfold KS.rng at e3
  show ((((((¬k.mine < 1 ∧ ¬4294967295 < k.mine) ∧ ¬k.theirs < 1) ∧ ¬4294967295 < k.theirs) ∧ ¬k.born < 0) ∧ ¬1099511627776 < k.born) ∧ ¬k.cnt < 0) ∧ ¬1099511627776 < k.cnt
  omega
theorem fresh_mk {k : KS} {now : Int} (h : k.ck = 0) (hl : k.live = true) (h2 : k.cnt < 1099511627776) (h3 : k.born ≤ now) (h4 : now - k.born < 180) : k.fresh now = true := by
  unfold KS.fresh; simp [h, hl, h2, h3, h4]
theorem tk_seal {k : KS} (h : k.good) {i : Nat} (hi : i < 10) {B : List UInt8} (hB : B.length ≤ 100) : (k.sI i).slE 20 B = 0 ∧ sealR k.send (i : Int) B = sealS k.send (i : Int) B := by
  obtain ⟨e1, e2, e3, e4⟩ := KS.ck_ok h.1 h.2.1
  have c := KS.sI_ck h (i := i) (by omega)
  have s := seal_ok (k := k.send) (c := (i : Int)) (b := B) e1 (by omega) (by omega) (by omega)
  refine ⟨?_, s.2⟩
  have f : (k.sI i).fresh 20 = true := fresh_mk c h.2.1 (show (i : Int) < _ by omega) (show k.born ≤ 20 by rw [h.2.2.1]; decide) (show 20 - k.born < 180 by rw [h.2.2.1]; decide)
  exact (KS.slE_3 c f).symm.trans s.1
theorem tk_open {k : KS} (h : k.good) (last : Bool) {n i : Nat} (hn : n ≤ 10) (hi : i < n) {B : List UInt8} (hB : B.length ≤ 100) :
    (k.oI last n i).opE 30 (wdK last n i : Nat) (sealS k.take (wdK last n i : Nat) B) = 0 ∧ openR k.take (wdK last n i : Nat) (sealS k.take (wdK last n i : Nat) B) = B ∧
    (k.oI last n (i + 1)).opE 30 (wdK last n i : Nat) (sealS k.take (wdK last n i : Nat) B) = 10 := by
  obtain ⟨e1, e2, e3, e4⟩ := KS.ck_ok h.1 h.2.1
  obtain ⟨w1, w2, w3, w4, w5, w6, w7⟩ := wd_at last hn hi
  have hk := wdK_lt last hi
  have o := open_seal (k := k.take) (c := (wdK last n i : Nat)) (b := B) e2 (by omega) (by omega) (by omega)
  have lt : ∀ j, ¬ (k.oI last n j).late 30 := fun j => KS.late_not ⟨⟨h.2.1, show ¬ 30 < k.born by rw [h.2.2.1]; decide⟩, show ¬ 180 ≤ 30 - k.born by rw [h.2.2.1]; decide⟩
  exact ⟨(KS.opE_4 (k := k.oI last n i) (KS.oI_ck h last w6) (lt _) o.1).symm.trans w1, o.2, (KS.opE_4 (k := k.oI last n (i + 1)) (KS.oI_ck h last w7) (lt _) o.1).symm.trans w5⟩
end Go.Proofs.Ytpcagbfnddgjpaa
