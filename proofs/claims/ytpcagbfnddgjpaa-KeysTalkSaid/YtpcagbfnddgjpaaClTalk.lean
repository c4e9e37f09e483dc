/- KeysTalk: the walk of the statement's function. -/
import Derived.Test.YtpcagbfnddgjpaaCKeysG
import Derived.Test.YtpcagbfnddgjpaaTalkF
import Derived.Test.YtpcagbfnddgjpaaLfs
namespace Go.Proofs.Ytpcagbfnddgjpaa
open Go.RowKit
set_option linter.unusedVariables false
set_option linter.unusedSimpArgs false

abbrev tkT (l : List (List UInt8)) (i : Nat) : List UInt8 := (l.getD i []).take (min ((l.getD i []).length : Int) 100).toNat
theorem tkT_len (l : List (List UInt8)) (i : Nat) : (tkT l i).length ≤ 100 := by unfold tkT; rw [List.length_take]; omega
theorem talkX_good (a b : Int) : (talkX a b 10).good := ⟨talkX_ck a b (by decide) (by decide), rfl, rfl, rfl⟩
theorem talkY_good (a b : Int) : (talkY a b 10).good := ⟨talkY_ck a b (by decide) (by decide), rfl, rfl, rfl⟩
theorem cf_tkSeal {k : KS} (h : k.good) {i : Nat} (hi : i < 10) {B : List UInt8} (hB : B.length ≤ 100) : Cf Try.prog 42 [] [(k.sI i).ev, .i 20, .bs B] [] (.tup [({ k with cnt := (i : Int) + 1 } : KS).ev, .bs (sealS k.send (i : Int) B), .i 0]) := by
  obtain ⟨e1, e2⟩ := tk_seal h hi hB
  have q := cf_kySealO (k := k.sI i) (now := 20) (b := B) e1 ⟨by decide, by decide⟩ (by omega)
  rw [show (k.sI i).send = k.send from rfl, show (k.sI i).cnt = (i : Int) from rfl, e2] at q; exact q
theorem cf_tkOpen {k x : KS} (h : k.good) (hx : k.take = x.send) (last : Bool) {n i : Nat} (hn : n ≤ 10) (hi : i < n) {B : List UInt8} (hB : B.length ≤ 100) :
    Cf Try.prog 43 [] [(k.oI last n i).ev, .i 30, .i (wdK last n i : Nat), .bs (sealS x.send (wdK last n i : Nat) B)] [] (.tup [(k.oI last n (i + 1)).ev, .bs B, .i 0]) := by
  rw [← hx]
  obtain ⟨e1, e2, e3⟩ := tk_open h last hn hi hB
  obtain ⟨w1, w2, w3, w4, w5, w6, w7⟩ := wd_at last hn hi
  have ls := sealS_length k.take (wdK last n i : Nat) B
  have q := cf_kyOpenO (k := k.oI last n i) (now := 30) (c := (wdK last n i : Nat)) (b := sealS k.take (wdK last n i : Nat) B) e1 ⟨by decide, by decide⟩ (by omega)
  rw [show (k.oI last n i).take = k.take from rfl, e2] at q
  rw [show (k.oI last n i).sn = wdS i from rfl, show (k.oI last n i).la = wdL last n i from rfl, show (k.oI last n i).bi = wdB i from rfl, w2, w3, w4] at q
  exact q
theorem cf_tkAgain {k x : KS} (h : k.good) (hx : k.take = x.send) (last : Bool) {n i : Nat} (hn : n ≤ 10) (hi : i < n) {B : List UInt8} (hB : B.length ≤ 100) :
    Cf Try.prog 43 [] [(k.oI last n (i + 1)).ev, .i 30, .i (wdK last n i : Nat), .bs (sealS x.send (wdK last n i : Nat) B)] [] (.tup [kz, .bs [], .i 10]) := by
  obtain ⟨e1, e2, e3⟩ := tk_open h last hn hi hB
  have ls := sealS_length k.take (wdK last n i : Nat) B
  have q := cf_kyOpenE (k := k.oI last n (i + 1)) (now := 30) (c := (wdK last n i : Nat)) (b := sealS k.take (wdK last n i : Nat) B) (by rw [e3]; decide) ⟨by decide, by decide⟩ (by omega)
  rw [e3, hx] at q; exact q
theorem rz_snoc {n sz : Nat} {f g : Nat → Nat → EV} {m : List EV} (h1 : ∀ a, a < n → ∀ j, j < sz → f a j = g a j) (h2 : ∀ j, j < sz → m.getD j .any = g n j) : ∀ a, a < n + 1 → ∀ j, j < sz → (bif Nat.blt a n then f a j else m.getD ((a - n) * sz + j) .any) = g a j := by
  intro a ha j hj
  by_cases hq : a < n
  · have : Nat.blt a n = true := by simpa [Nat.blt_eq] using hq
    rw [this]; exact h1 a hq j hj
  · obtain rfl : a = n := by omega
    have : Nat.blt a a = false := by cases hb : Nat.blt a a with | false => rfl | true => (rw [Nat.blt_eq] at hb; omega)
    rw [this, Nat.sub_self, Nat.zero_mul, Nat.zero_add]; exact h2 j hj
set_option maxRecDepth 100000 in
set_option maxHeartbeats 4000000 in
theorem cf_KeysTalk {a b : Int} {l : List (List UInt8)} {from_ last : Bool} (ha : IntIn a) (hb : IntIn b) : Cf Try.prog 11 [] [.i a, .i b, strsE l, .b from_, .b last] [] (.b true) := by
  have hT := cf_talk (now := 10) ha hb (by decide) (by decide)
  have gX := talkX_good a b
  have gY := talkY_good a b
  obtain ⟨n, hn⟩ : ∃ n : Nat, (n : Int) = min (l.length : Int) 10 := ⟨(min (l.length : Int) 10).toNat, by omega⟩
  have hn10 : n ≤ 10 := by omega
  have hnt : (min (l.length : Int) 10).toNat = n := by omega
  refine Cf.introR tabT {nl := [(14, 22, 1)]} (DR _ _ _ tabT {nl := [(14, 22, 1)]}) (by kernel_rfl) tab_ok Try.func11 Try.ntmps11 rfl rfl (DR_ok tab_ok (by kernel_rfl)) (by kernel_rfl) ?_
  refine ⟨_, _, _, _, hT, ?_⟩
  repeat (refine Ob.mk ?_ ?_; focus ((exact Eq.refl _)))
  refine ⟨fun h1 => ?_, fun h1 => ?_⟩
  · skip
    have c1 := h1
    (simp only [Bool.not_eq_true', Bool.not_eq_false', Bool.not_true, Bool.not_false, Bool.and_eq_true, Bool.or_eq_true, Bool.and_eq_false_iff, Bool.or_eq_false_iff, Bool.not_not, beq_true, beq_false, decide_eq_true_eq, decide_eq_false_iff_not] at c1)
    repeat (refine Ob.mk ?_ ?_; focus (assumption))
    trivial
  · skip
    have c1 := h1
    (simp only [Bool.not_eq_true', Bool.not_eq_false', Bool.not_true, Bool.not_false, Bool.and_eq_true, Bool.or_eq_true, Bool.and_eq_false_iff, Bool.or_eq_false_iff, Bool.not_not, beq_true, beq_false, decide_eq_true_eq, decide_eq_false_iff_not] at c1)
    refine ⟨fun h2 => ?_, fun h2 => ?_⟩
    · skip
      have c2 := h2
      have hSeal := fun {i : Nat} (hi : i < 10) {B : List UInt8} (hB : B.length ≤ 100) => cf_tkSeal gY hi hB
      have hOpen := fun (last : Bool) {i : Nat} (hi : i < n) {B : List UInt8} (hB : B.length ≤ 100) => cf_tkOpen (x := talkY a b 10) gX rfl last hn10 hi hB
      have hAgain := fun (last : Bool) {i : Nat} (hi : i < n) {B : List UInt8} (hB : B.length ≤ 100) => cf_tkAgain (x := talkY a b 10) gX rfl last hn10 hi hB
      repeat (refine Ob.mk ?_ ?_; focus (omega))
      refine ⟨Nat, fun i => ⟨[(2, .lz n 1 (fun u j => .s (l.getD u []))), (4, .b last), (11, .own 1011 0), (12, .own 1012 0), (14, .osl 60 i), (45, .lz n 1 (fun u j => .s (l.getD u []))), (46, .i (n : Int)), (47, .i (i : Int))], [(1011, .box [.b (talkY a b 10).live, .s (talkY a b 10).send, .s (talkY a b 10).take, .i (talkY a b 10).mine, .i (talkY a b 10).theirs, .i (talkY a b 10).born, .i ((i : Int)), .b ((talkY a b 10).sn), .i ((talkY a b 10).la), .u64 ((talkY a b 10).bi), .b (talkY a b 10).first] 52), (1012, .box [.b (talkX a b 10).live, .s (talkX a b 10).send, .s (talkX a b 10).take, .i (talkX a b 10).mine, .i (talkX a b 10).theirs, .i (talkX a b 10).born, .i ((talkX a b 10).cnt), .b ((talkX a b 10).sn), .i ((talkX a b 10).la), .u64 ((talkX a b 10).bi), .b (talkX a b 10).first] 52), (60, .rz i 1 (fun u j => .bs (sealS (talkY a b 10).send (u : Int) (tkT l u))) 22 0)]⟩, fun i => i ≤ n, fun i => n - i, 0, by simp, ?_, fun i hx1 => ?_⟩
      · skip
        repeat (refine Ob.mk ?_ ?_; (focus (first | (exact Eq.refl _) | assumption | omega | (intro hg; ((intro hq; ((simp_all; done))))))))
        trivial
      refine ⟨fun h3 => ?_, fun h3 => ?_⟩
      · skip
        have c3 := h3
        (simp only [Bool.not_eq_true', Bool.not_eq_false', Bool.not_true, Bool.not_false, Bool.and_eq_true, Bool.or_eq_true, Bool.and_eq_false_iff, Bool.or_eq_false_iff, Bool.not_not, beq_true, beq_false, decide_eq_true_eq, decide_eq_false_iff_not] at c3)
        have hi9 : i < n := by omega
        repeat (refine Ob.mk ?_ ?_; focus (first | assumption | omega))
        refine ⟨[0, 0, 0, 4, 12, 30, 62, 127, 255, 511, 511, 511, 0, 5119, 14335, 32767], by kernel_rfl, ?_⟩
        repeat (refine Ob.mk ?_ ?_; (focus (first | omega | (simp [SrcE.len]; omega))))
        refine ⟨_, _, _, _, (hSeal (by omega : i < 10) (tkT_len l i)), ?_⟩
        repeat (refine Ob.mk ?_ ?_; (focus (first | (exact Eq.refl _) | (intro _; exact Eq.refl _) | omega)))
        refine ⟨fun h4 => ?_, fun h4 => ?_⟩
        · skip
          (simp only [Int.reduceToNat, UInt8.reduceOfNat] at h4)
          have c4 := h4
          (simp only [Bool.not_eq_true', Bool.not_eq_false', Bool.not_true, Bool.not_false, Bool.and_eq_true, Bool.or_eq_true, Bool.and_eq_false_iff, Bool.or_eq_false_iff, Bool.not_not, beq_true, beq_false, decide_eq_true_eq, decide_eq_false_iff_not] at c4)
          repeat (refine Ob.mk ?_ ?_; focus (assumption))
          trivial
        · skip
          (simp only [Int.reduceToNat, UInt8.reduceOfNat] at h4)
          have c4 := h4
          (simp only [Bool.not_eq_true', Bool.not_eq_false', Bool.not_true, Bool.not_false, Bool.and_eq_true, Bool.or_eq_true, Bool.and_eq_false_iff, Bool.or_eq_false_iff, Bool.not_not, beq_true, beq_false, decide_eq_true_eq, decide_eq_false_iff_not] at c4)
          refine ⟨[0, 0, 0, 4, 14, 31, 63], by kernel_rfl, ?_⟩
          repeat (refine Ob.mk ?_ ?_; (focus (first | (exact Eq.refl _) | omega | (simp only [SrcE.len, Nat.zero_add, List.length_append, List.length_cons, List.length_nil]; omega))))
          refine ⟨i + 1, (by assumption), (by (simp only [SrcE.len, Nat.zero_add, List.length_append, List.length_cons, List.length_nil]; omega)), ?_⟩
          repeat (refine Ob.mk ?_ ?_; (focus (first | (exact rz_snoc (fun _ _ _ _ => rfl) (fun j hj => by (obtain rfl : j = 0 := by omega); exact Eq.refl _)) | (exact Eq.refl _) | (exact Nat.le_of_ble_eq_true rfl) | (intro hg; ((intro hq; ((simp_all; done))))))))
          trivial
      · skip
        have c3 := h3
        (simp only [Bool.not_eq_true', Bool.not_eq_false', Bool.not_true, Bool.not_false, Bool.and_eq_true, Bool.or_eq_true, Bool.and_eq_false_iff, Bool.or_eq_false_iff, Bool.not_not, beq_true, beq_false, decide_eq_true_eq, decide_eq_false_iff_not] at c3)
        have ein : i = n := by omega
        refine ⟨Nat, fun i => ⟨[(2, .lz n 1 (fun u j => .s (l.getD u []))), (4, .b last), (12, .own 1012 0), (14, .osl 60 n), (80, .i (n : Int)), (81, .i (i : Int))], [(1012, .box [.b (talkX a b 10).live, .s (talkX a b 10).send, .s (talkX a b 10).take, .i (talkX a b 10).mine, .i (talkX a b 10).theirs, .i (talkX a b 10).born, .i ((talkX a b 10).cnt), .b (wdS i), .i (wdL last n i), .u64 (wdB i), .b (talkX a b 10).first] 52), (60, .rz n 1 (fun u j => .bs (sealS (talkY a b 10).send (u : Int) (tkT l u))) 22 0)]⟩, fun i => i ≤ n, fun i => n - i, 0, by simp, ?_, fun i hx2 => ?_⟩
        · skip
          repeat (refine Ob.mk ?_ ?_; (focus (first | (exact Eq.refl _) | assumption | omega | (intro hg; ((intro hq; ((simp_all; done))))))))
          trivial
        refine ⟨fun h5 => ?_, fun h5 => ?_⟩
        · skip
          have c5 := h5
          (simp only [Bool.not_eq_true', Bool.not_eq_false', Bool.not_true, Bool.not_false, Bool.and_eq_true, Bool.or_eq_true, Bool.and_eq_false_iff, Bool.or_eq_false_iff, Bool.not_not, beq_true, beq_false, decide_eq_true_eq, decide_eq_false_iff_not] at c5)
          have hi9 : i < n := by omega
          refine ⟨fun h6 => ?_, fun h6 => ?_⟩
          · skip
            have c6 := h6
            have el : last = true := h6
            have ek : (n : Int) - 1 - (i : Int) = ((wdK last n i : Nat) : Int) := by unfold wdK; rw [el]; simp only [cond_true]; omega
            repeat (refine Ob.mk ?_ ?_; focus (omega))
            refine ⟨[0, 0, 0, 0, 12, 28, 63, 127, 255, 255, 255, 0, 2559, 7167, 16383], by kernel_rfl, ?_⟩
            repeat (refine Ob.mk ?_ ?_; focus (omega))
            refine ⟨_, _, _, _, (hOpen last hi9 (tkT_len l (wdK last n i))), ?_⟩
            repeat (refine Ob.mk ?_ ?_; (focus (first | (exact Eq.refl _) | assumption | (simp_all; done))))
            refine ⟨[0, 0, 0, 0, 12, 28, 63, 127, 255, 255, 255, 0, 2559, 7167, 16383], by kernel_rfl, ?_⟩
            repeat (refine Ob.mk ?_ ?_; focus (omega))
            refine ⟨_, _, _, _, (hAgain last hi9 (tkT_len l (wdK last n i))), ?_⟩
            repeat (refine Ob.mk ?_ ?_; (focus (first | (exact Eq.refl _) | assumption | (simp_all; done))))
            refine ⟨[0, 1, 3, 7, 15, 31, 63, 127, 255, 127, 127, 1663, 3711, 127, 127, 24703, 57471, 123007, 254079, 523903, 1048575, 2097151], by kernel_rfl, ?_⟩
            repeat (refine Ob.mk ?_ ?_; (focus (first | (intro _; exact Eq.refl _) | omega)))
            refine ⟨fun h7 => ?_, fun h7 => ?_⟩
            · skip
              (simp only [Int.reduceToNat, UInt8.reduceOfNat] at h7)
              have c7 := h7
              (simp only [Bool.not_eq_true', Bool.not_eq_false', Bool.not_true, Bool.not_false, Bool.and_eq_true, Bool.or_eq_true, Bool.and_eq_false_iff, Bool.or_eq_false_iff, Bool.not_not, beq_true, beq_false, decide_eq_true_eq, decide_eq_false_iff_not] at c7)
              rw [ek, Int.toNat_natCast] at c7
              simp [tkT] at c7
            · skip
              (simp only [Int.reduceToNat, UInt8.reduceOfNat] at h7)
              have c7 := h7
              (simp only [Bool.not_eq_true', Bool.not_eq_false', Bool.not_true, Bool.not_false, Bool.and_eq_true, Bool.or_eq_true, Bool.and_eq_false_iff, Bool.or_eq_false_iff, Bool.not_not, beq_true, beq_false, decide_eq_true_eq, decide_eq_false_iff_not] at c7)
              repeat (refine Ob.mk ?_ ?_; focus (omega))
              refine ⟨i + 1, (by assumption), (by (simp only [SrcE.len, Nat.zero_add, List.length_append, List.length_cons, List.length_nil]; omega)), ?_⟩
              repeat (refine Ob.mk ?_ ?_; (focus (first | (exact Eq.refl _) | omega | (intro hg; ((intro hq; ((simp_all; done))))))))
              trivial
          · skip
            have c6 := h6
            have el : last = false := h6
            have ek : (i : Int) = ((wdK last n i : Nat) : Int) := by unfold wdK; rw [el]; rfl
            refine ⟨[0, 0, 0, 0, 12, 28, 63, 127, 255, 255, 255, 0, 2559, 7167, 16383], by kernel_rfl, ?_⟩
            repeat (refine Ob.mk ?_ ?_; focus (first | assumption | omega))
            refine ⟨_, _, _, _, (hOpen last hi9 (tkT_len l (wdK last n i))), ?_⟩
            repeat (refine Ob.mk ?_ ?_; (focus (first | (exact Eq.refl _) | assumption | (simp only [h1, h2, h3, h5, h6, cond_true, cond_false, Bool.not_true, Bool.not_false, Bool.and_true, Bool.true_and, Bool.and_false, Bool.false_and, Bool.or_true, Bool.true_or, Bool.or_false, Bool.false_or, Int.reduceToNat, UInt8.reduceOfNat]; exact Eq.refl _))))
            refine ⟨[0, 0, 0, 0, 12, 28, 63, 127, 255, 255, 255, 0, 2559, 7167, 16383], by kernel_rfl, ?_⟩
            repeat (refine Ob.mk ?_ ?_; focus (first | assumption | omega))
            refine ⟨_, _, _, _, (hAgain last hi9 (tkT_len l (wdK last n i))), ?_⟩
            repeat (refine Ob.mk ?_ ?_; (focus (first | (exact Eq.refl _) | assumption | (simp only [h1, h2, h3, h5, h6, cond_true, cond_false, Bool.not_true, Bool.not_false, Bool.and_true, Bool.true_and, Bool.and_false, Bool.false_and, Bool.or_true, Bool.true_or, Bool.or_false, Bool.false_or, Int.reduceToNat, UInt8.reduceOfNat]; exact Eq.refl _))))
            refine ⟨[0, 1, 3, 7, 15, 31, 63, 127, 255, 127, 127, 1663, 3711, 127, 127, 24703, 57471, 123007, 254079, 523903, 1048575, 2097151], by kernel_rfl, ?_⟩
            repeat (refine Ob.mk ?_ ?_; (focus (first | (intro _; exact Eq.refl _) | omega)))
            refine ⟨fun h8 => ?_, fun h8 => ?_⟩
            · skip
              (simp only [Int.reduceToNat, UInt8.reduceOfNat] at h8)
              have c8 := h8
              (simp only [Bool.not_eq_true', Bool.not_eq_false', Bool.not_true, Bool.not_false, Bool.and_eq_true, Bool.or_eq_true, Bool.and_eq_false_iff, Bool.or_eq_false_iff, Bool.not_not, beq_true, beq_false, decide_eq_true_eq, decide_eq_false_iff_not] at c8)
              rw [ek, Int.toNat_natCast] at c8
              simp [tkT] at c8
            · skip
              (simp only [Int.reduceToNat, UInt8.reduceOfNat] at h8)
              have c8 := h8
              (simp only [Bool.not_eq_true', Bool.not_eq_false', Bool.not_true, Bool.not_false, Bool.and_eq_true, Bool.or_eq_true, Bool.and_eq_false_iff, Bool.or_eq_false_iff, Bool.not_not, beq_true, beq_false, decide_eq_true_eq, decide_eq_false_iff_not] at c8)
              repeat (refine Ob.mk ?_ ?_; focus (omega))
              refine ⟨i + 1, (by assumption), (by (simp only [SrcE.len, Nat.zero_add, List.length_append, List.length_cons, List.length_nil]; omega)), ?_⟩
              repeat (refine Ob.mk ?_ ?_; (focus (first | (exact Eq.refl _) | omega | (intro hg; ((intro hq; ((simp_all; done))))))))
              trivial
        · skip
          have c5 := h5
          (simp only [Bool.not_eq_true', Bool.not_eq_false', Bool.not_true, Bool.not_false, Bool.and_eq_true, Bool.or_eq_true, Bool.and_eq_false_iff, Bool.or_eq_false_iff, Bool.not_not, beq_true, beq_false, decide_eq_true_eq, decide_eq_false_iff_not] at c5)
          repeat (refine Ob.mk ?_ ?_; focus ((exact Eq.refl _)))
          trivial
    · skip
      have c2 := h2
      have hSeal := fun {i : Nat} (hi : i < 10) {B : List UInt8} (hB : B.length ≤ 100) => cf_tkSeal gX hi hB
      have hOpen := fun (last : Bool) {i : Nat} (hi : i < n) {B : List UInt8} (hB : B.length ≤ 100) => cf_tkOpen (x := talkX a b 10) gY rfl last hn10 hi hB
      have hAgain := fun (last : Bool) {i : Nat} (hi : i < n) {B : List UInt8} (hB : B.length ≤ 100) => cf_tkAgain (x := talkX a b 10) gY rfl last hn10 hi hB
      repeat (refine Ob.mk ?_ ?_; focus (omega))
      refine ⟨Nat, fun i => ⟨[(2, .lz n 1 (fun u j => .s (l.getD u []))), (4, .b last), (11, .own 1011 0), (12, .own 1012 0), (14, .osl 60 i), (45, .lz n 1 (fun u j => .s (l.getD u []))), (46, .i (n : Int)), (47, .i (i : Int))], [(1011, .box [.b (talkX a b 10).live, .s (talkX a b 10).send, .s (talkX a b 10).take, .i (talkX a b 10).mine, .i (talkX a b 10).theirs, .i (talkX a b 10).born, .i ((i : Int)), .b ((talkX a b 10).sn), .i ((talkX a b 10).la), .u64 ((talkX a b 10).bi), .b (talkX a b 10).first] 52), (1012, .box [.b (talkY a b 10).live, .s (talkY a b 10).send, .s (talkY a b 10).take, .i (talkY a b 10).mine, .i (talkY a b 10).theirs, .i (talkY a b 10).born, .i ((talkY a b 10).cnt), .b ((talkY a b 10).sn), .i ((talkY a b 10).la), .u64 ((talkY a b 10).bi), .b (talkY a b 10).first] 52), (60, .rz i 1 (fun u j => .bs (sealS (talkX a b 10).send (u : Int) (tkT l u))) 22 0)]⟩, fun i => i ≤ n, fun i => n - i, 0, by simp, ?_, fun i hx3 => ?_⟩
      · skip
        repeat (refine Ob.mk ?_ ?_; (focus (first | (exact Eq.refl _) | assumption | omega | (intro hg; ((intro hq; ((simp_all; done))))))))
        trivial
      refine ⟨fun h9 => ?_, fun h9 => ?_⟩
      · skip
        have c9 := h9
        (simp only [Bool.not_eq_true', Bool.not_eq_false', Bool.not_true, Bool.not_false, Bool.and_eq_true, Bool.or_eq_true, Bool.and_eq_false_iff, Bool.or_eq_false_iff, Bool.not_not, beq_true, beq_false, decide_eq_true_eq, decide_eq_false_iff_not] at c9)
        have hi9 : i < n := by omega
        repeat (refine Ob.mk ?_ ?_; focus (first | assumption | omega))
        refine ⟨[0, 0, 0, 4, 12, 30, 62, 127, 255, 511, 511, 511, 0, 5119, 14335, 32767], by kernel_rfl, ?_⟩
        repeat (refine Ob.mk ?_ ?_; (focus (first | omega | (simp [SrcE.len]; omega))))
        refine ⟨_, _, _, _, (hSeal (by omega : i < 10) (tkT_len l i)), ?_⟩
        repeat (refine Ob.mk ?_ ?_; (focus (first | (exact Eq.refl _) | (intro _; exact Eq.refl _) | omega)))
        refine ⟨fun h10 => ?_, fun h10 => ?_⟩
        · skip
          (simp only [Int.reduceToNat, UInt8.reduceOfNat] at h10)
          have c10 := h10
          (simp only [Bool.not_eq_true', Bool.not_eq_false', Bool.not_true, Bool.not_false, Bool.and_eq_true, Bool.or_eq_true, Bool.and_eq_false_iff, Bool.or_eq_false_iff, Bool.not_not, beq_true, beq_false, decide_eq_true_eq, decide_eq_false_iff_not] at c10)
          repeat (refine Ob.mk ?_ ?_; focus (assumption))
          trivial
        · skip
          (simp only [Int.reduceToNat, UInt8.reduceOfNat] at h10)
          have c10 := h10
          (simp only [Bool.not_eq_true', Bool.not_eq_false', Bool.not_true, Bool.not_false, Bool.and_eq_true, Bool.or_eq_true, Bool.and_eq_false_iff, Bool.or_eq_false_iff, Bool.not_not, beq_true, beq_false, decide_eq_true_eq, decide_eq_false_iff_not] at c10)
          refine ⟨[0, 0, 0, 4, 14, 31, 63], by kernel_rfl, ?_⟩
          repeat (refine Ob.mk ?_ ?_; (focus (first | (exact Eq.refl _) | omega | (simp only [SrcE.len, Nat.zero_add, List.length_append, List.length_cons, List.length_nil]; omega))))
          refine ⟨i + 1, (by assumption), (by (simp only [SrcE.len, Nat.zero_add, List.length_append, List.length_cons, List.length_nil]; omega)), ?_⟩
          repeat (refine Ob.mk ?_ ?_; (focus (first | (exact rz_snoc (fun _ _ _ _ => rfl) (fun j hj => by (obtain rfl : j = 0 := by omega); exact Eq.refl _)) | (exact Eq.refl _) | (exact Nat.le_of_ble_eq_true rfl) | (intro hg; ((intro hq; ((simp_all; done))))))))
          trivial
      · skip
        have c9 := h9
        (simp only [Bool.not_eq_true', Bool.not_eq_false', Bool.not_true, Bool.not_false, Bool.and_eq_true, Bool.or_eq_true, Bool.and_eq_false_iff, Bool.or_eq_false_iff, Bool.not_not, beq_true, beq_false, decide_eq_true_eq, decide_eq_false_iff_not] at c9)
        have ein : i = n := by omega
        refine ⟨Nat, fun i => ⟨[(2, .lz n 1 (fun u j => .s (l.getD u []))), (4, .b last), (12, .own 1012 0), (14, .osl 60 n), (80, .i (n : Int)), (81, .i (i : Int))], [(1012, .box [.b (talkY a b 10).live, .s (talkY a b 10).send, .s (talkY a b 10).take, .i (talkY a b 10).mine, .i (talkY a b 10).theirs, .i (talkY a b 10).born, .i ((talkY a b 10).cnt), .b (wdS i), .i (wdL last n i), .u64 (wdB i), .b (talkY a b 10).first] 52), (60, .rz n 1 (fun u j => .bs (sealS (talkX a b 10).send (u : Int) (tkT l u))) 22 0)]⟩, fun i => i ≤ n, fun i => n - i, 0, by simp, ?_, fun i hx4 => ?_⟩
        · skip
          repeat (refine Ob.mk ?_ ?_; (focus (first | (exact Eq.refl _) | assumption | omega | (intro hg; ((intro hq; ((simp_all; done))))))))
          trivial
        refine ⟨fun h11 => ?_, fun h11 => ?_⟩
        · skip
          have c11 := h11
          (simp only [Bool.not_eq_true', Bool.not_eq_false', Bool.not_true, Bool.not_false, Bool.and_eq_true, Bool.or_eq_true, Bool.and_eq_false_iff, Bool.or_eq_false_iff, Bool.not_not, beq_true, beq_false, decide_eq_true_eq, decide_eq_false_iff_not] at c11)
          have hi9 : i < n := by omega
          refine ⟨fun h12 => ?_, fun h12 => ?_⟩
          · skip
            have c12 := h12
            have el : last = true := h12
            have ek : (n : Int) - 1 - (i : Int) = ((wdK last n i : Nat) : Int) := by unfold wdK; rw [el]; simp only [cond_true]; omega
            repeat (refine Ob.mk ?_ ?_; focus (omega))
            refine ⟨[0, 0, 0, 0, 12, 28, 63, 127, 255, 255, 255, 0, 2559, 7167, 16383], by kernel_rfl, ?_⟩
            repeat (refine Ob.mk ?_ ?_; focus (omega))
            refine ⟨_, _, _, _, (hOpen last hi9 (tkT_len l (wdK last n i))), ?_⟩
            repeat (refine Ob.mk ?_ ?_; (focus (first | (exact Eq.refl _) | assumption | (simp_all; done))))
            refine ⟨[0, 0, 0, 0, 12, 28, 63, 127, 255, 255, 255, 0, 2559, 7167, 16383], by kernel_rfl, ?_⟩
            repeat (refine Ob.mk ?_ ?_; focus (omega))
            refine ⟨_, _, _, _, (hAgain last hi9 (tkT_len l (wdK last n i))), ?_⟩
            repeat (refine Ob.mk ?_ ?_; (focus (first | (exact Eq.refl _) | assumption | (simp_all; done))))
            refine ⟨[0, 1, 3, 7, 15, 31, 63, 127, 255, 127, 127, 1663, 3711, 127, 127, 24703, 57471, 123007, 254079, 523903, 1048575, 2097151], by kernel_rfl, ?_⟩
            repeat (refine Ob.mk ?_ ?_; (focus (first | (intro _; exact Eq.refl _) | omega)))
            refine ⟨fun h13 => ?_, fun h13 => ?_⟩
            · skip
              (simp only [Int.reduceToNat, UInt8.reduceOfNat] at h13)
              have c13 := h13
              (simp only [Bool.not_eq_true', Bool.not_eq_false', Bool.not_true, Bool.not_false, Bool.and_eq_true, Bool.or_eq_true, Bool.and_eq_false_iff, Bool.or_eq_false_iff, Bool.not_not, beq_true, beq_false, decide_eq_true_eq, decide_eq_false_iff_not] at c13)
              rw [ek, Int.toNat_natCast] at c13
              simp [tkT] at c13
            · skip
              (simp only [Int.reduceToNat, UInt8.reduceOfNat] at h13)
              have c13 := h13
              (simp only [Bool.not_eq_true', Bool.not_eq_false', Bool.not_true, Bool.not_false, Bool.and_eq_true, Bool.or_eq_true, Bool.and_eq_false_iff, Bool.or_eq_false_iff, Bool.not_not, beq_true, beq_false, decide_eq_true_eq, decide_eq_false_iff_not] at c13)
              repeat (refine Ob.mk ?_ ?_; focus (omega))
              refine ⟨i + 1, (by assumption), (by (simp only [SrcE.len, Nat.zero_add, List.length_append, List.length_cons, List.length_nil]; omega)), ?_⟩
              repeat (refine Ob.mk ?_ ?_; (focus (first | (exact Eq.refl _) | omega | (intro hg; ((intro hq; ((simp_all; done))))))))
              trivial
          · skip
            have c12 := h12
            have el : last = false := h12
            have ek : (i : Int) = ((wdK last n i : Nat) : Int) := by unfold wdK; rw [el]; rfl
            refine ⟨[0, 0, 0, 0, 12, 28, 63, 127, 255, 255, 255, 0, 2559, 7167, 16383], by kernel_rfl, ?_⟩
            repeat (refine Ob.mk ?_ ?_; focus (first | assumption | omega))
            refine ⟨_, _, _, _, (hOpen last hi9 (tkT_len l (wdK last n i))), ?_⟩
            repeat (refine Ob.mk ?_ ?_; (focus (first | (exact Eq.refl _) | assumption | (simp only [h1, h2, h9, h11, h12, cond_true, cond_false, Bool.not_true, Bool.not_false, Bool.and_true, Bool.true_and, Bool.and_false, Bool.false_and, Bool.or_true, Bool.true_or, Bool.or_false, Bool.false_or, Int.reduceToNat, UInt8.reduceOfNat]; exact Eq.refl _))))
            refine ⟨[0, 0, 0, 0, 12, 28, 63, 127, 255, 255, 255, 0, 2559, 7167, 16383], by kernel_rfl, ?_⟩
            repeat (refine Ob.mk ?_ ?_; focus (first | assumption | omega))
            refine ⟨_, _, _, _, (hAgain last hi9 (tkT_len l (wdK last n i))), ?_⟩
            repeat (refine Ob.mk ?_ ?_; (focus (first | (exact Eq.refl _) | assumption | (simp only [h1, h2, h9, h11, h12, cond_true, cond_false, Bool.not_true, Bool.not_false, Bool.and_true, Bool.true_and, Bool.and_false, Bool.false_and, Bool.or_true, Bool.true_or, Bool.or_false, Bool.false_or, Int.reduceToNat, UInt8.reduceOfNat]; exact Eq.refl _))))
            refine ⟨[0, 1, 3, 7, 15, 31, 63, 127, 255, 127, 127, 1663, 3711, 127, 127, 24703, 57471, 123007, 254079, 523903, 1048575, 2097151], by kernel_rfl, ?_⟩
            repeat (refine Ob.mk ?_ ?_; (focus (first | (intro _; exact Eq.refl _) | omega)))
            refine ⟨fun h14 => ?_, fun h14 => ?_⟩
            · skip
              (simp only [Int.reduceToNat, UInt8.reduceOfNat] at h14)
              have c14 := h14
              (simp only [Bool.not_eq_true', Bool.not_eq_false', Bool.not_true, Bool.not_false, Bool.and_eq_true, Bool.or_eq_true, Bool.and_eq_false_iff, Bool.or_eq_false_iff, Bool.not_not, beq_true, beq_false, decide_eq_true_eq, decide_eq_false_iff_not] at c14)
              rw [ek, Int.toNat_natCast] at c14
              simp [tkT] at c14
            · skip
              (simp only [Int.reduceToNat, UInt8.reduceOfNat] at h14)
              have c14 := h14
              (simp only [Bool.not_eq_true', Bool.not_eq_false', Bool.not_true, Bool.not_false, Bool.and_eq_true, Bool.or_eq_true, Bool.and_eq_false_iff, Bool.or_eq_false_iff, Bool.not_not, beq_true, beq_false, decide_eq_true_eq, decide_eq_false_iff_not] at c14)
              repeat (refine Ob.mk ?_ ?_; focus (omega))
              refine ⟨i + 1, (by assumption), (by (simp only [SrcE.len, Nat.zero_add, List.length_append, List.length_cons, List.length_nil]; omega)), ?_⟩
              repeat (refine Ob.mk ?_ ?_; (focus (first | (exact Eq.refl _) | omega | (intro hg; ((intro hq; ((simp_all; done))))))))
              trivial
        · skip
          have c11 := h11
          (simp only [Bool.not_eq_true', Bool.not_eq_false', Bool.not_true, Bool.not_false, Bool.and_eq_true, Bool.or_eq_true, Bool.and_eq_false_iff, Bool.or_eq_false_iff, Bool.not_not, beq_true, beq_false, decide_eq_true_eq, decide_eq_false_iff_not] at c11)
          repeat (refine Ob.mk ?_ ?_; focus ((exact Eq.refl _)))
          trivial
end Go.Proofs.Ytpcagbfnddgjpaa
