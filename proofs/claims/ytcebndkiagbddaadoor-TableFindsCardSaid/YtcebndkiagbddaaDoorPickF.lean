/- A number out of so many; bytes of which one is changed; keys: what the laws' helpers compute, in plain words. -/
import Derived.Lib.Repeat
import Derived.Test.YtcebndkiagbddaaDoorHexF
namespace Go.Proofs.YtcebndkiagbddaaDoor
set_option linter.unusedVariables false
set_option linter.unusedSimpArgs false

abbrev IntIn (n : Int) : Prop := -9223372036854775808 ≤ n ∧ n ≤ 9223372036854775807
def pk (n m : Int) : Int := (bif decide (n < 0) then -(n + 1) else n) % m
theorem pk_ge (n : Int) {m : Int} (h : 0 < m) : 0 ≤ pk n m := Int.emod_nonneg _ (by omega)
theorem pk_lt (n : Int) {m : Int} (h : 0 < m) : pk n m < m := Int.emod_lt_of_pos _ h
/-- Some bytes, one of them turned. -/
def trn (l : List UInt8) (at_ : Int) (y : UInt8) : List UInt8 :=
  bif decide ((0 : Int) < (l.length : Int)) then l.set (pk at_ l.length).toNat (l.getD (pk at_ l.length).toNat 0 ^^^ (if y < 1 then 1 else y)) else l
theorem trn_len (l : List UInt8) (at_ : Int) (y : UInt8) : (trn l at_ y).length = l.length := by
  unfold trn; cases decide ((0 : Int) < (l.length : Int)) <;> simp
/-- Some bytes, cut or filled up to n. -/
def pad (n : Nat) (s : List UInt8) : List UInt8 := s.take n ++ List.replicate (n - s.length) 0
theorem pad_len (n : Nat) (s : List UInt8) : (pad n s).length = n := by unfold pad; simp; omega
theorem trn_set {l : List UInt8} (h : 0 < l.length) (a : Int) (y : UInt8) : trn l a y = l.set (pk a l.length).toNat (l.getD (pk a l.length).toNat 0 ^^^ (if y < 1 then 1 else y)) := by
  unfold trn; rw [decide_eq_true (by omega)]; rfl
theorem xor_ne {x z : UInt8} (h : z ≠ 0) : x ^^^ z ≠ x := fun e => by
  apply h
  have : x ^^^ (x ^^^ z) = x ^^^ x := by rw [e]
  rw [← UInt8.xor_assoc, UInt8.xor_self, UInt8.zero_xor] at this
  exact this
theorem trn_ne {l : List UInt8} (h : 0 < l.length) (a : Int) (y : UInt8) : trn l a y ≠ l := by
  rw [trn_set h]
  intro e
  have h1 := pk_ge a (m := (l.length : Int)) (by omega)
  have h2 := pk_lt a (m := (l.length : Int)) (by omega)
  have hi : (pk a l.length).toNat < l.length := by omega
  have e2 := congrArg (fun m => m[(pk a l.length).toNat]?) e
  simp only [List.getElem?_set, if_pos hi, if_true, List.getElem?_eq_getElem hi, Option.some.injEq] at e2
  rw [List.getD_eq_getElem?_getD, List.getElem?_eq_getElem hi, Option.getD_some] at e2
  refine xor_ne ?_ e2
  split
  · decide
  · next hy => intro e3; subst e3; exact hy (by decide)
/-- Keys that are used. -/
def dig8 : List UInt8 := [50, 51, 52, 53, 54, 55, 56, 57]
def keyN (j : Nat) : List UInt8 := Go.Lib.repeatL [49, dig8.getD j 0] 32
def keyS (n : Int) : List UInt8 := keyN (pk n 8).toNat
theorem key_at (n : Int) : ∃ j, j < 8 ∧ keyS n = keyN j ∧ pk n 8 = (j : Int) := by
  have h1 := pk_ge n (m := 8) (by decide)
  have h2 := pk_lt n (m := 8) (by decide)
  exact ⟨(pk n 8).toNat, by omega, rfl, by omega⟩
theorem keyN_ok : ∀ j, j < 8 → hexC (keyN j) = 0 := by decide +kernel
theorem keyN_len : ∀ j, j < 8 → (keyN j).length = 64 := by decide +kernel
theorem keyN_inj : ∀ i, i < 8 → ∀ j, j < 8 → keyN i = keyN j → i = j := by decide +kernel
theorem keyS_ok (n : Int) : hexC (keyS n) = 0 := by obtain ⟨j, h, e, _⟩ := key_at n; rw [e]; exact keyN_ok j h
theorem keyS_len (n : Int) : (keyS n).length = 64 := by obtain ⟨j, h, e, _⟩ := key_at n; rw [e]; exact keyN_len j h
theorem keyS_eq (n : Int) : Go.Lib.repeatL ([49] ++ (dig8.drop (pk n 8).toNat).take ((pk n 8 + 1).toNat - (pk n 8).toNat)) 32 = keyS n := by
  obtain ⟨j, h, e, h2⟩ := key_at n
  unfold keyS keyN
  rw [h2]
  have e2 : ((j : Int) + 1).toNat - ((j : Int)).toNat = 1 := by omega
  rw [e2, Int.toNat_natCast]
  have e3 : (dig8.drop j).take 1 = [dig8.getD j 0] := by
    have hl : j < dig8.length := h
    rw [List.drop_eq_getElem_cons hl, List.getD_eq_getElem?_getD, List.getElem?_eq_getElem hl]; rfl
  rw [e3]; rfl
attribute [irreducible] keyS keyN trn
end Go.Proofs.YtcebndkiagbddaaDoor
