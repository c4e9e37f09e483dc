/- BatchLines: the walk of the statement's function. -/
import Derived.Test.YtcebndkiagbddaaDoorClBatchB
import Derived.Test.YtcebndkiagbddaaDoorInsS
namespace Go.Proofs.YtcebndkiagbddaaDoor
open Go.RowKit Go.Lib
set_option linter.unusedVariables false
set_option linter.unusedSimpArgs false

abbrev w0 : LnP := ([119, 104, 97, 116], [49])
abbrev insW (L : List SetS) (k : Nat) : List LnP := (L.map ls1).take k ++ w0 :: (L.map ls1).drop k
theorem ins_len {L : List SetS} {k : Nat} (hk : k ≤ L.length) : (insW L k).length = L.length + 1 := by
  show ((L.map ls1).take k ++ w0 :: (L.map ls1).drop k).length = _
  rw [List.length_append, List.length_cons, List.length_take, List.length_drop, List.length_map]; omega
theorem ins_bad {L : List SetS} (hL : ∀ x ∈ L, chkS x = 0 ∧ x.p.length ≤ 32) (hn : L.length ≤ 20) {k : Nat} (hk : k ≤ L.length) :
    parseR (jtx (insW L k)) = ([], (k : Int) + 1, 2) ∧ (jtx (insW L k)).length ≤ 3000 := by
  have hm : ∀ x ∈ L.map ls1, lnC x.1 x.2 = 0 ∧ (ltxt x).length ≤ 95 ∧ (readS x).2 = 0 := fun x hx => by
    obtain ⟨y, hy, rfl⟩ := List.mem_map.1 hx
    have h := ls1_back (hL y hy).1 (hL y hy).2
    exact ⟨h.2.1, h.2.2, congrArg Prod.snd h.1⟩
  have hin : ∀ x ∈ insW L k, x = w0 ∨ x ∈ L.map ls1 := fun x hx => by
    rcases List.mem_append.1 hx with h | h
    · exact .inr (List.mem_of_mem_take h)
    · rcases List.mem_cons.1 h with h | h
      · exact .inl h
      · exact .inr (List.mem_of_mem_drop h)
  have hlen : (jtx (insW L k)).length ≤ 3000 := by
    have := jtx_len95 (L := insW L k) fun x hx => by
      rcases hin x hx with rfl | h
      · decide
      · exact (hm x h).2.1
    rw [ins_len hk] at this; omega
  have hb := back_ok (L := insW L k) (by rw [ins_len hk]; omega) (fun x hx => by
    rcases hin x hx with rfl | h
    · decide
    · exact (hm x h).1) hlen
  refine ⟨?_, hlen⟩
  unfold parseR
  rw [hb.2, if_pos rfl]
  have e := prR_bad ((L.map ls1).take k) ((L.map ls1).drop k) [] 0 w0 (fun y hy => (hm y (List.mem_of_mem_take hy)).2.2) (by decide)
  rw [List.length_take, List.length_map, Nat.min_eq_left hk, Nat.zero_add] at e
  exact e
theorem strs_row (T : List (List UInt8)) : lzC T.length 1 (fun a _ => EV.s (T.getD a [])) = pvL (T.map fun s => EV.s s) := by
  rw [← lzC_of T.length 1 (T.map fun s => EV.s s) (by simp)]
  refine lzC_ext fun i hi j hj => ?_
  obtain rfl : j = 0 := by omega
  rw [List.getD_eq_getElem?_getD, List.getD_eq_getElem?_getD, List.getElem?_map, Nat.mul_one, Nat.add_zero, List.getElem?_eq_getElem hi]; rfl
/-- A string put into a row of strings of the call's own. -/
theorem cf_InsStr {T : List (List UInt8)} {x : List UInt8} {k : Nat} (hk : k ≤ T.length) (hn : T.length ≤ 1000000) :
    Cf Tryd.prog 16 [(0, .rz T.length 1 (fun a _ => .s (T.getD a [])) 9 0), (1, .row [.s x] 9 1 0)] [.osl 0 T.length, .i (k : Int), .osl 1 1]
      [(60, .rz (T.length + 1) 1 (fun a _ => .s ((T.take k ++ x :: T.drop k).getD a [])) 9 0)] (.osl 60 (T.length + 1)) := by
  have hl : (T.take k ++ x :: T.drop k).length = T.length + 1 := by
    rw [List.length_append, List.length_cons, List.length_take, List.length_drop]; omega
  refine Cf.ins (cells := T.map fun s => EV.s s) (xs := [.s x]) insS_W (by kernel_rfl) (by decide) (by decide) ?_ (by simp) rfl hk (by omega) ?_
  · show OB.row (lzC T.length 1 _) _ _ _ = _
    rw [strs_row]
  · show OB.row (lzC (T.length + 1) 1 _) _ _ _ = _
    rw [← hl, strs_row, List.map_append, List.map_cons, List.map_take, List.map_drop, Nat.mul_one, List.append_assoc]; rfl
set_option maxRecDepth 100000 in
set_option maxHeartbeats 4000000 in
theorem cf_BatchLinesO {l : List RawS} {at_ : Int} {L : List SetS} {k : Nat} (hl : ∀ x ∈ l, x.inn) (hn : (l.length : Int) ≤ 9223372036854775807) (ha : IntIn at_) (hL : stsL l 20 = L) (hpk : pk at_ ((L.length : Int) + 1) = (k : Int)) : Cf Tryd.prog 4 [] [rawsE l, .i at_] [] (.b true) := by
  have hS := cf_Settings (m := 20) hl hn (by decide)
  rw [hL] at hS
  have hok : ∀ x ∈ L, chkS x = 0 ∧ x.p.length ≤ 32 ∧ formS x := by rw [← hL]; exact stsL_ok l 20
  have hLn : L.length ≤ 20 := by rw [← hL, stsL_len]; omega
  have hkl : k ≤ L.length := by have := pk_lt at_ (m := (L.length : Int) + 1) (by omega); omega
  have hB := ins_bad (L := L) (fun x hx => ⟨(hok x hx).1, (hok x hx).2.1⟩) hLn hkl
  have hP := cf_bParse (s := jtx (insW L k))
  rw [hB.1] at hP
  have hT : (L.map fun x => ltxt (ls1 x)).length = L.length := List.length_map ..
  have hI := cf_InsStr (T := L.map fun x => ltxt (ls1 x)) (x := [119, 104, 97, 116, 61, 49]) (k := k) (by rw [hT]; exact hkl) (by rw [hT]; omega)
  rw [hT] at hI
  have hmm : (insW L k).map ltxt = (L.map fun x => ltxt (ls1 x)).take k ++ [119, 104, 97, 116, 61, 49] :: (L.map fun x => ltxt (ls1 x)).drop k := by rw [List.map_append, List.map_cons, List.map_take, List.map_drop, List.map_map]; rfl
  have hJ := cf_Join (L := (insW L k).map ltxt) (sep := [10]) (by rw [List.length_map, ins_len hkl]; omega) (by show (jtx (insW L k)).length ≤ _; omega)
  rw [show Lib.join ((insW L k).map ltxt) [10] = jtx (insW L k) from rfl] at hJ
  refine Cf.introR tabT {nl := [(6, 9, 1)]} D0 (by kernel_rfl) tab_ok Tryd.func4 Tryd.ntmps4 rfl rfl (D0_ok) (by kernel_rfl) ?_
  refine ⟨_, _, _, _, hS, ?_⟩
  repeat (refine Ob.mk ?_ ?_; (focus (first | (exact Eq.refl _) | (intro hg; ((intro hq; ((simp_all; done))))))))
  refine ⟨Nat, fun i => ⟨[(1, .i at_), (6, .osl 1006 i), (19, setsE L), (20, .i (L.length : Int)), (21, .i (i : Int))], [(1006, .rz i 1 (fun a b => .s (ltxt (ls1 (L.getD a set0)))) 9 0)]⟩, fun i => i ≤ L.length, fun i => L.length - i, 0, by omega, ?_, fun i hx1 => ?_⟩
  · skip
    repeat (refine Ob.mk ?_ ?_; (focus (first | (exact Eq.refl _) | omega | (intro hg; ((intro hq; ((simp_all; done))))))))
    trivial
  refine ⟨fun h1 => ?_, fun h1 => ?_⟩
  · skip
    have c1 := h1
    (simp only [bsX] at c1)
    have hi : i < L.length := by omega
    have hok1 := hok _ (getD_in (d := set0) hi)
    have hbk := ls1_back hok1.1 hok1.2.1
    have hLn1 : Cf Tryd.prog 12 [] [setE (L.getD i set0)] [] (.tup [.agg [.s (wrd (L.getD i set0).k.toNat), .s (valS (L.getD i set0))], .i 0]) := by have h := cf_bLine (s := L.getD i set0) hok1.2.2; rw [ls1_is hok1.1] at h; exact h
    have hls : ls1 (L.getD i set0) = (wrd (L.getD i set0).k.toNat, valS (L.getD i set0)) := congrArg Prod.fst (ls1_is hok1.1)
    have hvl := (val_okV hok1.1 hok1.2.1).2
    have hwl := wl0 (L.getD i set0).k.toNat
    have hRd : Cf Tryd.prog 13 [] [.agg [.s (wrd (L.getD i set0).k.toNat), .s (valS (L.getD i set0))]] [] (.tup [setE (L.getD i set0), .i 0]) := by have h := cf_bRead (l := (wrd (L.getD i set0).k.toNat, valS (L.getD i set0))) (by show (valS (L.getD i set0)).length ≤ _; omega); rw [← hls, hbk.1, hls] at h; exact h
    repeat (refine Ob.mk ?_ ?_; focus (first | assumption | omega))
    refine ⟨_, _, _, _, hLn1, ?_⟩
    repeat (refine Ob.mk ?_ ?_; focus ((exact Eq.refl _)))
    refine ⟨_, _, _, _, hRd, ?_⟩
    repeat (refine Ob.mk ?_ ?_; (focus (first | (exact Eq.refl _) | (intro _; exact Eq.refl _))))
    refine ⟨fun h2 => ?_, fun h2 => ?_⟩
    · skip
      (simp only [Int.reduceToNat, UInt8.reduceOfNat] at h2)
      have c2 := h2
      (simp only [bsX] at c2)
      exact absurd h2 (by simp)
    · skip
      (simp only [Int.reduceToNat, UInt8.reduceOfNat] at h2)
      have c2 := h2
      (simp only [bsX] at c2)
      repeat (refine Ob.mk ?_ ?_; (focus (first | (exact Eq.refl _) | omega | (simp only [SrcE.len, Nat.zero_add, List.length_append, List.length_cons, List.length_nil]; omega) | (simp_all; omega))))
      refine ⟨i + 1, (by assumption), (by (simp only [SrcE.len, Nat.zero_add, List.length_append, List.length_cons, List.length_nil]; omega)), ?_⟩
      repeat (refine Ob.mk ?_ ?_; (focus (first | (exact ln_snoc (fun _ _ _ _ => rfl) (fun j hj => by (obtain rfl : j = 0 := by omega); (show EV.s (wrd (L.getD i set0).k.toNat ++ [61] ++ valS (L.getD i set0)) = EV.s ((ls1 (L.getD i set0)).1 ++ 61 :: (ls1 (L.getD i set0)).2)); rw [hls, List.append_assoc]; rfl)) | (exact Eq.refl _) | (exact Nat.le_of_ble_eq_true rfl) | (intro hg; ((intro hq; ((simp_all; done))))))))
      trivial
  · skip
    have c1 := h1
    (simp only [bsX] at c1)
    have hi : i = L.length := by have : i ≤ L.length := hx1; omega
    subst hi
    repeat (refine Ob.mk ?_ ?_; focus (omega))
    refine ⟨_, _, _, _, (cf_pickedI (n := at_) (m := (L.length : Int) + 1) (q := (k : Int)) ha (by omega) hpk), ?_⟩
    repeat (refine Ob.mk ?_ ?_; focus ((exact Eq.refl _)))
    refine ⟨_, _, _, _, hI, ?_⟩
    repeat (refine Ob.mk ?_ ?_; (focus (first | (exact Eq.refl _) | omega | (intro hg; ((intro hq; ((simp_all; done))))))))
    refine ⟨_, _, _, _, hJ, ?_⟩
    repeat (refine Ob.mk ?_ ?_; (focus (first | (exact Eq.refl _) | (intro hg; ((intro hq; ((simp_all; done))))) | (simp [SrcE.len]; omega))))
    refine ⟨_, _, _, _, hP, ?_⟩
    repeat (refine Ob.mk ?_ ?_; (focus (first | (exact Eq.refl _) | (intro _; exact Eq.refl _) | omega | (simp only [h1, cond_true, cond_false, Bool.not_true, Bool.not_false, Bool.and_true, Bool.true_and, Bool.and_false, Bool.false_and, Bool.or_true, Bool.true_or, Bool.or_false, Bool.false_or, Int.reduceToNat, UInt8.reduceOfNat]; exact Eq.refl _))))
    trivial
theorem cf_BatchLines {l : List RawS} {at_ : Int} (hl : ∀ x ∈ l, x.inn) (hn : (l.length : Int) ≤ 9223372036854775807) (ha : IntIn at_) : Cf Tryd.prog 4 [] [rawsE l, .i at_] [] (.b true) :=
  cf_BatchLinesO (k := (pk at_ (((stsL l 20).length : Int) + 1)).toNat) hl hn ha rfl (by have := pk_ge at_ (m := ((stsL l 20).length : Int) + 1) (by omega); omega)
end Go.Proofs.YtcebndkiagbddaaDoor
