/- The head of this translation, word by word: what its rows' closed facts ask of it. Written by a program (ag.py). -/
import Derived.Test.YtcebndkiagbddaaDoorProg
import Derived.KernelRfl
import Derived.JoinedOf
namespace Go.Proofs.YtcebndkiagbddaaDoor
set_option linter.unusedVariables false
set_option maxRecDepth 100000

def chars (l : List Nat) : List Char := l.map Char.ofNat
theorem words_app : ∀ (l : List Nat) (r : List Char), (l.all fun c => !(Char.ofNat c == Char.ofNat 32)) = true → wordsSigns (chars l ++ Char.ofNat 32 :: r) = chars l :: wordsSigns r
  | [], r, _ => by
    show wordsSigns (Char.ofNat 32 :: r) = [] :: wordsSigns r
    rfl
  | c :: l, r, h => by
    simp only [List.all_cons, Bool.and_eq_true, Bool.not_eq_true', beq_eq_false_iff_ne] at h
    have ih := words_app l r h.2
    show wordsSigns (Char.ofNat c :: (chars l ++ Char.ofNat 32 :: r)) = (Char.ofNat c :: chars l) :: wordsSigns r
    rw [wordsSigns]
    · rw [ih]
    · exact fun e => h.1 (e.trans rfl)
theorem behind_ {h s : List Char} {r : List (List Char)} (hc : ((h == "harness".toList || h == "ownmain".toList) && isSumSigns s) = true) : behindMainWord (h :: s :: r) = r := by
  simp only [behindMainWord]
  rw [if_pos hc]
theorem order0 : Tryd.prog.initOrder = String.ofList (Char.ofNat 104 :: Char.ofNat 97 :: Char.ofNat 114 :: Char.ofNat 110 :: Char.ofNat 101 :: Char.ofNat 115 :: Char.ofNat 115 :: Char.ofNat 32 :: Char.ofNat 57 :: Char.ofNat 48 :: Char.ofNat 54 :: Char.ofNat 50 :: Char.ofNat 100 :: Char.ofNat 97 :: Char.ofNat 98 :: Char.ofNat 48 :: Char.ofNat 57 :: Char.ofNat 55 :: Char.ofNat 57 :: Char.ofNat 52 :: Char.ofNat 49 :: Char.ofNat 51 :: Char.ofNat 52 :: Char.ofNat 48 :: Char.ofNat 98 :: Char.ofNat 52 :: Char.ofNat 49 :: Char.ofNat 55 :: Char.ofNat 57 :: Char.ofNat 52 :: Char.ofNat 53 :: Char.ofNat 55 :: Char.ofNat 100 :: Char.ofNat 98 :: Char.ofNat 48 :: Char.ofNat 98 :: Char.ofNat 100 :: Char.ofNat 100 :: Char.ofNat 54 :: Char.ofNat 56 :: Char.ofNat 50 :: Char.ofNat 102 :: Char.ofNat 100 :: Char.ofNat 53 :: Char.ofNat 100 :: Char.ofNat 101 :: Char.ofNat 50 :: Char.ofNat 101 :: Char.ofNat 50 :: Char.ofNat 49 :: Char.ofNat 102 :: Char.ofNat 54 :: Char.ofNat 98 :: Char.ofNat 48 :: Char.ofNat 101 :: Char.ofNat 52 :: Char.ofNat 97 :: Char.ofNat 50 :: Char.ofNat 56 :: Char.ofNat 97 :: Char.ofNat 100 :: Char.ofNat 51 :: Char.ofNat 48 :: Char.ofNat 98 :: Char.ofNat 55 :: Char.ofNat 100 :: Char.ofNat 98 :: Char.ofNat 99 :: Char.ofNat 102 :: Char.ofNat 53 :: Char.ofNat 51 :: Char.ofNat 56 :: Char.ofNat 32 :: Char.ofNat 99 :: Char.ofNat 117 :: Char.ofNat 116 :: Char.ofNat 32 :: Char.ofNat 97 :: Char.ofNat 116 :: Char.ofNat 32 :: Char.ofNat 99 :: Char.ofNat 97 :: Char.ofNat 116 :: Char.ofNat 116 :: Char.ofNat 108 :: Char.ofNat 101 :: Char.ofNat 99 :: Char.ofNat 114 :: Char.ofNat 101 :: Char.ofNat 101 :: Char.ofNat 112 :: Char.ofNat 47 :: Char.ofNat 99 :: Char.ofNat 97 :: Char.ofNat 116 :: Char.ofNat 116 :: Char.ofNat 108 :: Char.ofNat 101 :: Char.ofNat 99 :: Char.ofNat 114 :: Char.ofNat 101 :: Char.ofNat 101 :: Char.ofNat 112 :: Char.ofNat 107 :: Char.ofNat 101 :: Char.ofNat 101 :: Char.ofNat 112 :: Char.ofNat 46 :: Char.ofNat 84 :: Char.ofNat 97 :: Char.ofNat 98 :: Char.ofNat 108 :: Char.ofNat 101 :: Char.ofNat 70 :: Char.ofNat 105 :: Char.ofNat 110 :: Char.ofNat 100 :: Char.ofNat 115 :: Char.ofNat 32 :: Char.ofNat 99 :: Char.ofNat 97 :: Char.ofNat 116 :: Char.ofNat 116 :: Char.ofNat 108 :: Char.ofNat 101 :: Char.ofNat 99 :: Char.ofNat 114 :: Char.ofNat 101 :: Char.ofNat 101 :: Char.ofNat 112 :: Char.ofNat 47 :: Char.ofNat 99 :: Char.ofNat 97 :: Char.ofNat 116 :: Char.ofNat 116 :: Char.ofNat 108 :: Char.ofNat 101 :: Char.ofNat 99 :: Char.ofNat 114 :: Char.ofNat 101 :: Char.ofNat 101 :: Char.ofNat 112 :: Char.ofNat 107 :: Char.ofNat 101 :: Char.ofNat 101 :: Char.ofNat 112 :: Char.ofNat 46 :: Char.ofNat 66 :: Char.ofNat 97 :: Char.ofNat 116 :: Char.ofNat 99 :: Char.ofNat 104 :: Char.ofNat 76 :: Char.ofNat 105 :: Char.ofNat 110 :: Char.ofNat 101 :: Char.ofNat 115 :: []) := by conv => lhs; whnf
theorem order_ : Tryd.prog.initOrder.toList = chars (104 :: 97 :: 114 :: 110 :: 101 :: 115 :: 115 :: []) ++ Char.ofNat 32 :: (chars (57 :: 48 :: 54 :: 50 :: 100 :: 97 :: 98 :: 48 :: 57 :: 55 :: 57 :: 52 :: 49 :: 51 :: 52 :: 48 :: 98 :: 52 :: 49 :: 55 :: 57 :: 52 :: 53 :: 55 :: 100 :: 98 :: 48 :: 98 :: 100 :: 100 :: 54 :: 56 :: 50 :: 102 :: 100 :: 53 :: 100 :: 101 :: 50 :: 101 :: 50 :: 49 :: 102 :: 54 :: 98 :: 48 :: 101 :: 52 :: 97 :: 50 :: 56 :: 97 :: 100 :: 51 :: 48 :: 98 :: 55 :: 100 :: 98 :: 99 :: 102 :: 53 :: 51 :: 56 :: []) ++ Char.ofNat 32 :: (chars (99 :: 117 :: 116 :: []) ++ Char.ofNat 32 :: chars (97 :: 116 :: 32 :: 99 :: 97 :: 116 :: 116 :: 108 :: 101 :: 99 :: 114 :: 101 :: 101 :: 112 :: 47 :: 99 :: 97 :: 116 :: 116 :: 108 :: 101 :: 99 :: 114 :: 101 :: 101 :: 112 :: 107 :: 101 :: 101 :: 112 :: 46 :: 84 :: 97 :: 98 :: 108 :: 101 :: 70 :: 105 :: 110 :: 100 :: 115 :: 32 :: 99 :: 97 :: 116 :: 116 :: 108 :: 101 :: 99 :: 114 :: 101 :: 101 :: 112 :: 47 :: 99 :: 97 :: 116 :: 116 :: 108 :: 101 :: 99 :: 114 :: 101 :: 101 :: 112 :: 107 :: 101 :: 101 :: 112 :: 46 :: 66 :: 97 :: 116 :: 99 :: 104 :: 76 :: 105 :: 110 :: 101 :: 115 :: []))) := by
  rw [order0, String.toList_ofList]
  kernel_rfl
theorem cut_ : ∃ r, behindMainWord (wordsSigns Tryd.prog.initOrder.toList) = chars (99 :: 117 :: 116 :: []) :: r := by
  refine ⟨wordsSigns (chars (97 :: 116 :: 32 :: 99 :: 97 :: 116 :: 116 :: 108 :: 101 :: 99 :: 114 :: 101 :: 101 :: 112 :: 47 :: 99 :: 97 :: 116 :: 116 :: 108 :: 101 :: 99 :: 114 :: 101 :: 101 :: 112 :: 107 :: 101 :: 101 :: 112 :: 46 :: 84 :: 97 :: 98 :: 108 :: 101 :: 70 :: 105 :: 110 :: 100 :: 115 :: 32 :: 99 :: 97 :: 116 :: 116 :: 108 :: 101 :: 99 :: 114 :: 101 :: 101 :: 112 :: 47 :: 99 :: 97 :: 116 :: 116 :: 108 :: 101 :: 99 :: 114 :: 101 :: 101 :: 112 :: 107 :: 101 :: 101 :: 112 :: 46 :: 66 :: 97 :: 116 :: 99 :: 104 :: 76 :: 105 :: 110 :: 101 :: 115 :: [])), ?_⟩
  rw [order_, words_app _ _ (by decide +kernel), words_app _ _ (by decide +kernel), words_app _ _ (by decide +kernel)]
  have h : ((chars (104 :: 97 :: 114 :: 110 :: 101 :: 115 :: 115 :: []) == "harness".toList || chars (104 :: 97 :: 114 :: 110 :: 101 :: 115 :: 115 :: []) == "ownmain".toList) && isSumSigns (chars (57 :: 48 :: 54 :: 50 :: 100 :: 97 :: 98 :: 48 :: 57 :: 55 :: 57 :: 52 :: 49 :: 51 :: 52 :: 48 :: 98 :: 52 :: 49 :: 55 :: 57 :: 52 :: 53 :: 55 :: 100 :: 98 :: 48 :: 98 :: 100 :: 100 :: 54 :: 56 :: 50 :: 102 :: 100 :: 53 :: 100 :: 101 :: 50 :: 101 :: 50 :: 49 :: 102 :: 54 :: 98 :: 48 :: 101 :: 52 :: 97 :: 50 :: 56 :: 97 :: 100 :: 51 :: 48 :: 98 :: 55 :: 100 :: 98 :: 99 :: 102 :: 53 :: 51 :: 56 :: []))) = true := by decide +kernel
  exact behind_ h
theorem strip_ (r : List (List Char)) : stripLifts liftWords (chars (99 :: 117 :: 116 :: []) :: r) = ([], chars (99 :: 117 :: 116 :: []) :: r) := by kernel_rfl
theorem enter_of (P : Program) (r : List (List Char)) (h : behindMainWord (wordsSigns P.initOrder.toList) = chars (99 :: 117 :: 116 :: []) :: r) (h1 : P.laysLater = false) (h2 : P.bearsReflect = false) (h3 : P.doorFits [] = true) : P.mayEnter = true := by
  unfold Program.mayEnter
  rw [h]
  simp only [strip_, h1, h2, h3, Bool.not_false, Bool.or_true, Bool.and_true]
  have a : ((chars (99 :: 117 :: 116 :: []) :: r).head? == some "cut".toList) = true := by kernel_rfl
  have b : (List.contains ([] : List String) "reflectrows" || !List.contains ([] : List String) "leanrows") = true := by kernel_rfl
  rw [a, b]
  simp
theorem heads_of (P : Program) (r : List (List Char)) (h : behindMainWord (wordsSigns P.initOrder.toList) = chars (99 :: 117 :: 116 :: []) :: r) : P.headLifts = [] := by
  unfold Program.headLifts
  rw [h]
  simp only [strip_]
  have a : ((chars (99 :: 117 :: 116 :: []) :: r).head? == some "cut".toList) = true := by kernel_rfl
  rw [a]
  rfl
theorem lifts_of (P : Program) (r : List (List Char)) (h : behindMainWord (wordsSigns P.initOrder.toList) = chars (99 :: 117 :: 116 :: []) :: r) : P.liftsFinal = false := by
  unfold Program.liftsFinal
  rw [h, heads_of P r h]
  have a : ((chars (99 :: 117 :: 116 :: []) :: r).head? == some "carried".toList) = false := by kernel_rfl
  have b : List.contains ([] : List String) "finals" = false := by kernel_rfl
  simp only [a, b, Bool.false_and, Bool.false_or]
theorem make_of (P : Program) (r : List (List Char)) (h : behindMainWord (wordsSigns P.initOrder.toList) = chars (99 :: 117 :: 116 :: []) :: r) : P.make = some .cut := by
  unfold Program.make
  rw [h]
  have a : (chars (99 :: 117 :: 116 :: []) == "gc".toList) = false := by kernel_rfl
  have b : (chars (99 :: 117 :: 116 :: []) == "spec".toList) = false := by kernel_rfl
  have c : (chars (99 :: 117 :: 116 :: []) == "cut".toList) = true := by kernel_rfl
  simp only [a, b, c, Bool.false_or, Bool.true_or, if_true]
  rfl
theorem later_ : Tryd.prog.laysLater = false := by kernel_rfl
theorem bears_ : Tryd.prog.bearsReflect = false := by kernel_rfl
theorem door_ : Tryd.prog.doorFits [] = true := by kernel_rfl
theorem enter_ : Tryd.prog.mayEnter = true := by
  obtain ⟨r, h⟩ := cut_
  exact enter_of _ r h later_ bears_ door_
theorem lifts_ : Tryd.prog.liftsFinal = false := by
  obtain ⟨r, h⟩ := cut_
  exact lifts_of _ r h
theorem make_ : Tryd.prog.make = some .cut := by
  obtain ⟨r, h⟩ := cut_
  exact make_of _ r h
theorem andI {a b : Bool} (h : a = true) (k : b = true) : (a && b) = true := by rw [h, k]; rfl
theorem lifts_eq {x : Bool} (h : x = false) : (x == Tryd.prog.liftsFinal) = true := by rw [lifts_, h]; rfl
theorem make_eq {x : Make} (h : x = .cut) : (Tryd.prog.make == some x) = true := by rw [make_, h]; rfl
theorem maps_ : mapsRowed Tryd.prog = true := by kernel_rfl
theorem laid_ : laidOutB Tryd.prog = true := by kernel_rfl
theorem heard_ : Tryd.prog.stopsHeard = true := by kernel_rfl
end Go.Proofs.YtcebndkiagbddaaDoor
