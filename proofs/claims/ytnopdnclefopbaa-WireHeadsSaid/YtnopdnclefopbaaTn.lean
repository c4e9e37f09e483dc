/- What is computed of stores, places, parts of slices, new blocks and appends is so. It names no function of the program. -/
import Derived.Test.YtnopdnclefopbaaTm
namespace Go.Proofs.Ytnopdnclefopbaa
open Go.RowKit
set_option linter.unusedVariables false
set_option linter.unusedSimpArgs false

section
variable {P : Program} {E : Env} {kp : List Nat} {n : Nat} {ops : Array Oper} {d : Nat} {ty : TypeId} {ps : String} {af : Array Edge}
variable {tab : TT} {vs : List (Nat × EV)} {bs : List (Nat × EB)} {st : ES}

theorem toPs_pvL : ∀ (l : List EV), onesE l = true → shL l = true → AV.toPs (avL l) = some (pvL l)
  | [], _, _ => rfl
  | x :: xs, h, k => by
    simp only [onesE, shL, Bool.and_eq_true] at h k
    have e : x.av = .p x.pv := by
      cases x <;> simp [oneE] at h <;> simp [EV.sh] at k <;> simp [EV.av, EV.pv]
    simp only [avL, pvL, e, AV.toPs, toPs_pvL xs h.2 k.2, Option.map_some]
theorem av_pv1 {x : EV} (h : oneE x = true) (k : x.sh = true) : x.av = .p x.pv := by
  cases x <;> simp [oneE] at h <;> simp [EV.sh] at k <;> simp [EV.av, EV.pv]
theorem cs1 {x : EV} (h : oneE x = true) : x.av.cs = [x.av] := by
  cases x <;> simp [oneE] at h <;> simp [EV.av, EV.pv, AV.cs, bytesP]
theorem ones_azC {m : Nat} {g : Nat → EV} (h : ∀ i, i < m → oneE (g i) = true) (k : ∀ i, i < m → (g i).sh = true) : allOne ((azC m g).map AV.p) = true := by
  have key : ∀ (l : List Nat), (∀ i ∈ l, oneE (g i) = true ∧ (g i).sh = true) → allOne ((l.map fun i => (g i).pv).map AV.p) = true := by
    intro l
    induction l with
    | nil => intro _; rfl
    | cons a l ih =>
      intro hl
      obtain ⟨h1, h2⟩ := hl a (by simp)
      simp only [List.map_cons, allOne, Bool.and_eq_true]
      exact ⟨by rw [← av_pv1 h1 h2]; exact one_av _ h1, ih fun i hi => hl i (List.mem_cons_of_mem _ hi)⟩
  exact key _ fun i hi => ⟨h i (List.mem_range.1 hi), k i (List.mem_range.1 hi)⟩
theorem putL_whole {α : Type} {l m : List α} (h : m.length = l.length) : putL l 0 m = m := by
  rw [putL_copy m l (by omega), List.drop_of_length_le (by omega), List.append_nil]
theorem set_azC {m o : Nat} {f : Nat → EV} {y : EV} (h : o < m) : ((azC m f).map AV.p).set o (.p y.pv) = (azC m (fun a => bif Nat.beq a o then y else f a)).map AV.p := by
  apply List.ext_getElem?
  intro q
  rw [List.getElem?_set]
  by_cases e : o = q
  · subst e
    rw [if_pos rfl, List.getElem?_map, azC_get h, if_pos (by simpa using h)]
    simp
  · rw [if_neg e]
    simp only [azC, List.map_map, List.getElem?_map]
    by_cases hq : q < m
    · rw [List.getElem?_range hq]
      have : Nat.beq q o = false := by
        cases hb : Nat.beq q o with
        | false => rfl
        | true => exact absurd (nat_eq hb).symm e
      simp [this]
    · rw [List.getElem?_eq_none (by simp; omega)]; rfl
theorem storeF_ok {T : TypeId} {x y : Operand} {u v : EV} {R : RS} (hP : tab.ok P) (S : Sub vs bs st) (h : storeF tab bs T u v = some R) (hC : ∀ c ∈ R.C, c) (hx : Gv (st.as.ev x) u.av) (hy : Gv (st.as.ev y) v.av) :
    Step P E kp n ops ⟨none, .store T x y, ty, ps, af, none⟩ st.as (R.app st).as := by
  unfold storeF at h
  cases hti : tab.find T with
  | none => rw [hti] at h; cases h
  | some ti =>
    rw [hti] at h
    have hT := TT.find_ok hP hti
    simp only at h
    split at h
    · next r off =>
      split at h
      · next m f t hb =>
        have hob : st.as.ob r = .box ((azC m f).map AV.p) t := S.ob hb (by simp)
        split at h
        · next m' g =>
          obtain ⟨hc, h⟩ := bif_some h
          cases h
          simp only [Bool.and_eq_true] at hc
          have e1 := nat_eq hc.1.1; have e2 := nat_eq hc.1.2; have e3 := nat_eq hc.2; subst e1 e3
          have ho := hC (∀ i, i < m' → oneE (g i) = true ∧ (g i).sh = true) (by simp)
          refine (S_storeBox (v := .agg ((azC m' g).map AV.p)) hx (hy.trans Gv.agg') hT.sz hob (by exact ones_azC (fun i hi => (ho i hi).1) (fun i hi => (ho i hi).2)) (by simp [AV.cs, e2]) (by simp [e2])).cast ?_
          show AS.mk _ ((r, OB.box (putL ((azC m' f).map AV.p) 0 ((azC m' g).map AV.p)) t) :: obs st.heap) = AS.mk _ ((r, OB.box ((azC m' g).map AV.p) t) :: obs st.heap)
          rw [putL_whole (by simp)]; rfl
        · next l =>
          obtain ⟨hc, h⟩ := bif_some h
          cases h
          simp only [Bool.and_eq_true] at hc
          have e1 := nat_eq hc.1.1.1; have e2 := nat_eq hc.1.1.2; have e3 := nat_eq hc.1.2; subst e1
          refine (S_storeBox (v := .agg (avL l)) hx hy hT.sz hob (by exact ones_av _ hc.2) (by simp [AV.cs, avL_length, e2, e3]) (by simp [e2])).cast ?_
          show AS.mk _ ((r, OB.box (putL ((azC m f).map AV.p) 0 (avL l)) t) :: obs st.heap) = AS.mk _ ((r, OB.box (avL l) t) :: obs st.heap)
          rw [putL_whole (by simp [avL_length, e3])]; rfl
        · obtain ⟨hc, h⟩ := bif_some h
          · cases h
            simp only [Bool.and_eq_true] at hc
            have e1 := nat_eq hc.1.1
            have hi := hC (off < m) (by simp)
            have ea := av_pv1 hc.1.2 hc.2
            refine (S_storeBox hx hy hT.sz hob (by rw [cs1 hc.1.2]; simp only [allOne, Bool.and_true]; exact one_av _ hc.1.2) (by rw [e1, cs1 hc.1.2]; rfl) (by simp; omega)).cast ?_
            rw [cs1 hc.1.2, ea]
            show AS.mk _ ((r, OB.box (((azC m f).map AV.p).set off (.p v.pv)) t) :: obs st.heap) = AS.mk _ ((r, OB.box ((azC m (fun a => bif Nat.beq a off then v else f a)).map AV.p) t) :: obs st.heap)
            rw [set_azC hi]; rfl
      · next cells t hb =>
       split at h
       · next m' g =>
         obtain ⟨hc, h⟩ := bif_some h
         cases h
         simp only [Bool.and_eq_true] at hc
         have e1 := nat_eq hc.1.1; have e2 := nat_eq hc.1.2; have e3 := nat_eq hc.2; subst e1
         have ho := hC (∀ i, i < m' → oneE (g i) = true ∧ (g i).sh = true) (by simp)
         refine (S_storeBox (v := .agg ((azC m' g).map AV.p)) hx (hy.trans Gv.agg') hT.sz (S.ob hb (by simp)) (by exact ones_azC (fun i hi => (ho i hi).1) (fun i hi => (ho i hi).2)) (by simp [AV.cs, e2]) (by rw [avL_length]; omega)).cast ?_
         show AS.mk _ ((r, OB.box (putL (avL cells) 0 ((azC m' g).map AV.p)) t) :: obs st.heap) = AS.mk _ ((r, OB.box ((azC m' g).map AV.p) t) :: obs st.heap)
         rw [putL_whole (by simp [avL_length, e3])]; rfl
       · cases hc : Nat.beq (csE v).length ti.sz && onesE (csE v) && Nat.ble (off + ti.sz) cells.length with
        | false => rw [hc] at h; cases h
        | true =>
          rw [hc] at h
          simp only [cond_true] at h
          simp only [Bool.and_eq_true, Nat.ble_eq] at hc
          split at h
          · next c hq =>
            cases h
            obtain ⟨h1, h2⟩ := ptE_eq hq
            obtain ⟨z, hz1, hz2⟩ := cs_av v hc.1.2
            have hlen := nat_eq hc.1.1
            refine (S_storeBox hx (hy.trans hz1) hT.sz (S.ob hb (by simp)) (by rw [hz2]; exact ones_av _ hc.1.2) (by rw [hz2, avL_length]; exact hlen) (by rw [avL_length]; exact hc.2)).cast ?_
            rw [hz2, h1]
            show AS.mk _ ((r, OB.box (putL (avL cells) off (avL (csE v))) t) :: obs st.heap) = AS.mk _ ((r, OB.box (avL (putL cells off (csE v))) t) :: obs st.heap)
            rw [avL_put]; rfl
          · cases h
      · cases h
    · next r s i off =>
      split at h
      · next l t pub hb =>
        cases hc : Nat.beq s 1 && Nat.beq off 0 && Nat.beq ti.sz 1 with
        | false => rw [hc] at h; cases h
        | true =>
          rw [hc] at h
          simp only [cond_true] at h
          simp only [Bool.and_eq_true] at hc
          have e1 := nat_eq hc.1.1; have e2 := nat_eq hc.1.2; have e3 := nat_eq hc.2; subst e1 e2
          split at h
          · next c hq =>
            cases h
            have hi := hC (i < l.length) (by simp)
            have hp := hC (pub ≤ i) (by simp)
            refine (S_storeRow (off := i) (s := 1) (qs := [b8P c]) (by simpa [EV.av] using hx) (hy.trans (asU8_gv hq)) (by rw [hT.sz, e3]) (S.ob hb (by simp)) (by rfl) rfl rfl hp (by simp; omega)).cast ?_
            show AS.mk _ ((r, OB.row (putL (l.map b8P) i [b8P c]) t 1 pub) :: obs st.heap) = AS.mk _ ((r, OB.row ((l.set i c).map b8P) t 1 pub) :: obs st.heap)
            rw [putL_map]; rfl
          · cases h
      · next cells t sz pub hb =>
        cases hc : Nat.beq (csE v).length ti.sz && onesE (csE v) && shL (csE v) && Nat.ble (i * s + off + ti.sz) cells.length with
        | false => rw [hc] at h; cases h
        | true =>
          rw [hc] at h
          simp only [cond_true] at h
          simp only [Bool.and_eq_true, Nat.ble_eq] at hc
          split at h
          · next c hq =>
            cases h
            obtain ⟨h1, h2⟩ := ptE_eq hq
            obtain ⟨z, hz1, hz2⟩ := cs_av v hc.1.1.2
            have hlen := nat_eq hc.1.1.1
            have hp := hC (pub ≤ i * s + off) (by simp)
            refine (S_storeRow (qs := pvL (csE v)) hx (hy.trans hz1) hT.sz (S.ob hb (by simp)) (by rw [hz2]; exact ones_av _ hc.1.1.2) (by rw [hz2]; exact toPs_pvL _ hc.1.1.2 hc.1.2) (by rw [pvL_length]; exact hlen) hp (by rw [pvL_length]; exact hc.2)).cast ?_
            rw [h1]
            show AS.mk _ ((r, OB.row (putL (pvL cells) (i * s + off) (pvL (csE v))) t sz pub) :: obs st.heap) = AS.mk _ ((r, OB.row (pvL (putL cells (i * s + off) (csE v))) t sz pub) :: obs st.heap)
            rw [pvL_put]; rfl
          · cases h
      · cases h
    · cases h
theorem fldF_ok {T f : Nat} {x : Operand} {u y : EV} (hP : tab.ok P) (h : fldF tab T f u = some y) (hd : Nat.blt d n = true) {st : AS} (hx : Gv (st.ev x) u.av) :
    Step P E kp n ops ⟨some d, .fieldAddr T x f, ty, ps, af, none⟩ st (st.put d y.av) := by
  unfold fldF at h
  split at h
  · next pl _ _ _ _ hti =>
    have hT := (TT.find_ok hP hti).st pl rfl
    split at h
    · next o s _ hpl =>
      have hi : (pl.map fun p => (p.1, p.2.1))[f]? = some (o, s + 1) := by rw [List.getElem?_map, hpl]; rfl
      split at h
      · cases h; exact S_fieldOwn hx hT hi (by omega) hd
      · cases h; exact S_fieldPp hx hT hi (by omega) hd
      · next r s' i off =>
        cases h
        refine (S_fieldOwn hx hT hi (by omega) hd).cast (put_eq ?_)
        show AV.own r (i * s' + off + o) = AV.own r (i * s' + (off + o))
        rw [Nat.add_assoc]
      · next m s' g i off =>
        cases h
        refine (S_fieldPp (off := i * s' + off) hx hT hi (by omega) hd).cast (put_eq ?_)
        show AV.p (.pp _ (i * s' + off + o)) = AV.p (.pp _ (i * s' + (off + o)))
        rw [Nat.add_assoc]
      · cases h
    · cases h
  · cases h
theorem idxF_ok {T : TypeId} {x y : Operand} {u v z : EV} {C : List Prop} (hP : tab.ok P) (h : idxF tab T u v = some (C, z)) (hC : ∀ c ∈ C, c) (hd : Nat.blt d n = true) {st : AS} (hx : Gv (st.ev x) u.av) (hy : Gv (st.ev y) v.av) :
    Step P E kp n ops ⟨some d, .indexAddr T x y, ty, ps, af, none⟩ st (st.put d z.av) := by
  unfold idxF at h
  cases hv : asInt v with
  | none => rw [hv] at h; cases h
  | some p =>
    obtain ⟨k, i⟩ := p
    rw [hv] at h
    simp only at h
    have hy' := hy.trans (asInt_gv hv)
    split at h
    · next e s _ _ _ _ _ _ hti =>
      obtain ⟨_, hT, _⟩ := (TT.find_ok hP hti).sl e s _ _ rfl
      split at h
      · next l =>
        cases hc : Nat.beq s 1 with
        | false => rw [hc] at h; cases h
        | true =>
          rw [hc] at h; cases h
          have e1 := nat_eq hc; subst e1
          have hb := hC (0 ≤ i ∧ i < (l.length : Int)) (by simp)
          refine (S_indexSl hy' hd (cells := l.map b8P) (m := l.length) hx hT hb.1 hb.2).cast (put_eq ?_)
          rw [Nat.mul_one]; rfl
      · next m sz f =>
        cases hc : Nat.beq s sz with
        | false => rw [hc] at h; cases h
        | true =>
          rw [hc] at h; cases h
          have e1 := nat_eq hc; subst e1
          have hb := hC (0 ≤ i ∧ i < (m : Int)) (by simp)
          exact (S_indexSl hy' hd hx hT hb.1 hb.2).cast (put_eq (by simp [EV.av, EV.pv]))
      · next cells m =>
        cases h
        have hb := hC (0 ≤ i ∧ i < (m : Int)) (by simp)
        exact S_indexSl hy' hd hx hT hb.1 hb.2
      · next r m =>
        cases h
        have hb := hC (0 ≤ i ∧ i < (m : Int)) (by simp)
        exact (S_indexOsl (sz := 0) (pub := 0) (cells := []) (t := 0) hy' hd hx hT hb.1 hb.2).cast (put_eq (by simp [EV.av]))
      · cases h
    · next m s _ _ _ _ _ hti =>
      obtain ⟨hT, _, _⟩ := (TT.find_ok hP hti).ar m s _ rfl
      split at h
      · cases h
        have hb := hC (0 ≤ i ∧ i < (m : Int)) (by simp)
        exact S_indexArr hy' hd hx hT hb.1 hb.2
      · cases h
        have hb := hC (0 ≤ i ∧ i < (m : Int)) (by simp)
        exact S_indexArrPp hy' hd hx hT hb.1 hb.2
      · cases h
    · cases h
theorem atF_ok {T : TypeId} {x y : Operand} {u v z : EV} {C : List Prop} (hP : tab.ok P) (h : atF tab T u v = some (C, z)) (hC : ∀ c ∈ C, c) (hd : Nat.blt d n = true) {st : AS} (hx : Gv (st.ev x) u.av) (hy : Gv (st.ev y) v.av) :
    Step P E kp n ops ⟨some d, .index T x y, ty, ps, af, none⟩ st (st.put d z.av) := by
  unfold atF at h
  cases hv : asInt v with
  | none => rw [hv] at h; cases h
  | some p =>
    obtain ⟨k, i⟩ := p
    rw [hv] at h
    simp only at h
    have hy' := hy.trans (asInt_gv hv)
    split at h
    · next hti =>
      split at h
      · next l hl =>
        cases h
        have hb := hC (0 ≤ i ∧ i < (l.length : Int)) (by simp)
        have e := asS_eq hl; subst e
        refine S_indexStr hy' hd hx ((TT.find_ok hP hti).str rfl) hb.1 ?_
        rw [List.getD_eq_getElem?_getD, List.getElem?_eq_getElem (by omega)]; rfl
      · cases h
    · next m e _ _ _ _ hti =>
      obtain ⟨_, hT, hs⟩ := (TT.find_ok hP hti).ar m 1 e rfl
      split at h
      · next hte =>
        have hE := TT.find_ok hP hte
        split at h
        · next l =>
          split at h
          · next q hq =>
            cases h
            have hb := hC (0 ≤ i ∧ i < (m : Int)) (by simp)
            rw [nthE_eq] at hq
            exact S_indexAgg hy' hd hx hT hE.agg hs hb.1 hb.2 (by rw [avL_get, hq]; rfl)
          · cases h
        · next m' f =>
          obtain ⟨hc, h⟩ := bif_some h
          cases h
          simp only [Bool.and_eq_true] at hc
          have e1 := nat_eq hc.2; subst e1
          have hb := hC (0 ≤ i ∧ i < (m' : Int)) (by simp)
          exact (S_indexAgg hy' hd (hx.trans Gv.agg') hT hE.agg hs hb.1 hb.2 (v := .p (f i.toNat).pv) (by rw [List.getElem?_map, azC_get (by omega)]; rfl)).gv (Gv.sh' hc.1)
        · cases h
      · cases h
    · cases h
end
end Go.Proofs.Ytnopdnclefopbaa
