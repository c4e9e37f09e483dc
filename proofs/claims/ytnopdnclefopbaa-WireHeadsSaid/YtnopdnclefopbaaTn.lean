/- What is computed of stores, places, parts of slices, new blocks and appends is so. It names no function of the program. -/
import Derived.Test.YtnopdnclefopbaaTm
namespace Go.Proofs.Ytnopdnclefopbaa
open Go.RowKit
set_option linter.unusedVariables false
set_option linter.unusedSimpArgs false

section
variable {P : Program} {E : Env} {kp : List Nat} {n : Nat} {ops : Array Oper} {d : Nat} {ty : TypeId} {ps : String} {af : Array Edge}
variable {tab : TT} {vs : List (Nat × EV)} {bs : List (Nat × EB)} {st : ES}

theorem toPs_pvL : ∀ (l : List EV), onesE l = true → shL l = true → AV.toPs (avL l) = some (pvL l)
  | [], _, _ => rfl
  | x :: xs, h, k => by
    simp only [onesE, shL, Bool.and_eq_true] at h k
    have e : x.av = .p x.pv := by
      cases x <;> simp [oneE] at h <;> simp [EV.sh] at k <;> simp [EV.av, EV.pv]
    simp only [avL, pvL, e, AV.toPs, toPs_pvL xs h.2 k.2, Option.map_some]
theorem storeF_ok {T : TypeId} {x y : Operand} {u v : EV} {R : RS} (hP : tab.ok P) (S : Sub vs bs st) (h : storeF tab bs T u v = some R) (hC : ∀ c ∈ R.C, c) (hx : Gv (st.as.ev x) u.av) (hy : Gv (st.as.ev y) v.av) :
    Step P E kp n ops ⟨none, .store T x y, ty, ps, af, none⟩ st.as (R.app st).as := by
  unfold storeF at h
  cases hti : tab.find T with
  | none => rw [hti] at h; cases h
  | some ti =>
    rw [hti] at h
    have hT := TT.find_ok hP hti
    simp only at h
    split at h
    · next r off =>
      split at h
      · next cells t hb =>
        cases hc : Nat.beq (csE v).length ti.sz && onesE (csE v) && Nat.ble (off + ti.sz) cells.length with
        | false => rw [hc] at h; cases h
        | true =>
          rw [hc] at h
          simp only [cond_true] at h
          simp only [Bool.and_eq_true, Nat.ble_eq] at hc
          split at h
          · next c hq =>
            cases h
            obtain ⟨h1, h2⟩ := ptE_eq hq
            obtain ⟨z, hz1, hz2⟩ := cs_av v hc.1.2
            have hlen := nat_eq hc.1.1
            refine (S_storeBox hx (hy.trans hz1) hT.sz (S.ob hb (by simp)) (by rw [hz2]; exact ones_av _ hc.1.2) (by rw [hz2, avL_length]; exact hlen) (by rw [avL_length]; exact hc.2)).cast ?_
            rw [hz2, h1]
            show AS.mk _ ((r, OB.box (putL (avL cells) off (avL (csE v))) t) :: obs st.heap) = AS.mk _ ((r, OB.box (avL (putL cells off (csE v))) t) :: obs st.heap)
            rw [avL_put]; rfl
          · cases h
      · cases h
    · next r s i off =>
      split at h
      · next l t pub hb =>
        cases hc : Nat.beq s 1 && Nat.beq off 0 && Nat.beq ti.sz 1 with
        | false => rw [hc] at h; cases h
        | true =>
          rw [hc] at h
          simp only [cond_true] at h
          simp only [Bool.and_eq_true] at hc
          have e1 := nat_eq hc.1.1; have e2 := nat_eq hc.1.2; have e3 := nat_eq hc.2; subst e1 e2
          split at h
          · next c hq =>
            cases h
            have hi := hC (i < l.length) (by simp)
            have hp := hC (pub ≤ i) (by simp)
            refine (S_storeRow (off := i) (s := 1) (qs := [b8P c]) (by simpa [EV.av] using hx) (hy.trans (asU8_gv hq)) (by rw [hT.sz, e3]) (S.ob hb (by simp)) (by rfl) rfl rfl hp (by simp; omega)).cast ?_
            show AS.mk _ ((r, OB.row (putL (l.map b8P) i [b8P c]) t 1 pub) :: obs st.heap) = AS.mk _ ((r, OB.row ((l.set i c).map b8P) t 1 pub) :: obs st.heap)
            rw [putL_map]; rfl
          · cases h
      · next cells t sz pub hb =>
        cases hc : Nat.beq (csE v).length ti.sz && onesE (csE v) && shL (csE v) && Nat.ble (i * s + off + ti.sz) cells.length with
        | false => rw [hc] at h; cases h
        | true =>
          rw [hc] at h
          simp only [cond_true] at h
          simp only [Bool.and_eq_true, Nat.ble_eq] at hc
          split at h
          · next c hq =>
            cases h
            obtain ⟨h1, h2⟩ := ptE_eq hq
            obtain ⟨z, hz1, hz2⟩ := cs_av v hc.1.1.2
            have hlen := nat_eq hc.1.1.1
            have hp := hC (pub ≤ i * s + off) (by simp)
            refine (S_storeRow (qs := pvL (csE v)) hx (hy.trans hz1) hT.sz (S.ob hb (by simp)) (by rw [hz2]; exact ones_av _ hc.1.1.2) (by rw [hz2]; exact toPs_pvL _ hc.1.1.2 hc.1.2) (by rw [pvL_length]; exact hlen) hp (by rw [pvL_length]; exact hc.2)).cast ?_
            rw [h1]
            show AS.mk _ ((r, OB.row (putL (pvL cells) (i * s + off) (pvL (csE v))) t sz pub) :: obs st.heap) = AS.mk _ ((r, OB.row (pvL (putL cells (i * s + off) (csE v))) t sz pub) :: obs st.heap)
            rw [pvL_put]; rfl
          · cases h
      · cases h
    · cases h
theorem fldF_ok {T f : Nat} {x : Operand} {u y : EV} (hP : tab.ok P) (h : fldF tab T f u = some y) (hd : Nat.blt d n = true) {st : AS} (hx : Gv (st.ev x) u.av) :
    Step P E kp n ops ⟨some d, .fieldAddr T x f, ty, ps, af, none⟩ st (st.put d y.av) := by
  unfold fldF at h
  split at h
  · next pl _ _ _ hti =>
    have hT := (TT.find_ok hP hti).st pl rfl
    split at h
    · next o s _ hpl =>
      have hi : (pl.map fun p => (p.1, p.2.1))[f]? = some (o, s + 1) := by rw [List.getElem?_map, hpl]; rfl
      split at h
      · cases h; exact S_fieldOwn hx hT hi (by omega) hd
      · cases h; exact S_fieldPp hx hT hi (by omega) hd
      · next r s' i off =>
        cases h
        refine (S_fieldOwn hx hT hi (by omega) hd).cast (put_eq ?_)
        show AV.own r (i * s' + off + o) = AV.own r (i * s' + (off + o))
        rw [Nat.add_assoc]
      · next m s' g i off =>
        cases h
        refine (S_fieldPp (off := i * s' + off) hx hT hi (by omega) hd).cast (put_eq ?_)
        show AV.p (.pp _ (i * s' + off + o)) = AV.p (.pp _ (i * s' + (off + o)))
        rw [Nat.add_assoc]
      · cases h
    · cases h
  · cases h
theorem idxF_ok {T : TypeId} {x y : Operand} {u v z : EV} {C : List Prop} (hP : tab.ok P) (h : idxF tab T u v = some (C, z)) (hC : ∀ c ∈ C, c) (hd : Nat.blt d n = true) {st : AS} (hx : Gv (st.ev x) u.av) (hy : Gv (st.ev y) v.av) :
    Step P E kp n ops ⟨some d, .indexAddr T x y, ty, ps, af, none⟩ st (st.put d z.av) := by
  unfold idxF at h
  cases hv : asInt v with
  | none => rw [hv] at h; cases h
  | some p =>
    obtain ⟨k, i⟩ := p
    rw [hv] at h
    simp only at h
    have hy' := hy.trans (asInt_gv hv)
    split at h
    · next e s _ _ _ _ _ hti =>
      obtain ⟨_, hT, _⟩ := (TT.find_ok hP hti).sl e s _ _ rfl
      split at h
      · next l =>
        cases hc : Nat.beq s 1 with
        | false => rw [hc] at h; cases h
        | true =>
          rw [hc] at h; cases h
          have e1 := nat_eq hc; subst e1
          have hb := hC (0 ≤ i ∧ i < (l.length : Int)) (by simp)
          refine (S_indexSl hy' hd (cells := l.map b8P) (m := l.length) hx hT hb.1 hb.2).cast (put_eq ?_)
          rw [Nat.mul_one]; rfl
      · next m sz f =>
        cases hc : Nat.beq s sz with
        | false => rw [hc] at h; cases h
        | true =>
          rw [hc] at h; cases h
          have e1 := nat_eq hc; subst e1
          have hb := hC (0 ≤ i ∧ i < (m : Int)) (by simp)
          exact (S_indexSl hy' hd hx hT hb.1 hb.2).cast (put_eq (by simp [EV.av, EV.pv]))
      · next cells m =>
        cases h
        have hb := hC (0 ≤ i ∧ i < (m : Int)) (by simp)
        exact S_indexSl hy' hd hx hT hb.1 hb.2
      · next r m =>
        cases h
        have hb := hC (0 ≤ i ∧ i < (m : Int)) (by simp)
        exact (S_indexOsl (sz := 0) (pub := 0) (cells := []) (t := 0) hy' hd hx hT hb.1 hb.2).cast (put_eq (by simp [EV.av]))
      · cases h
    · next m s _ _ _ _ hti =>
      obtain ⟨hT, _, _⟩ := (TT.find_ok hP hti).ar m s _ rfl
      split at h
      · cases h
        have hb := hC (0 ≤ i ∧ i < (m : Int)) (by simp)
        exact S_indexArr hy' hd hx hT hb.1 hb.2
      · cases h
        have hb := hC (0 ≤ i ∧ i < (m : Int)) (by simp)
        exact S_indexArrPp hy' hd hx hT hb.1 hb.2
      · cases h
    · cases h
theorem atF_ok {T : TypeId} {x y : Operand} {u v z : EV} {C : List Prop} (hP : tab.ok P) (h : atF tab T u v = some (C, z)) (hC : ∀ c ∈ C, c) (hd : Nat.blt d n = true) {st : AS} (hx : Gv (st.ev x) u.av) (hy : Gv (st.ev y) v.av) :
    Step P E kp n ops ⟨some d, .index T x y, ty, ps, af, none⟩ st (st.put d z.av) := by
  unfold atF at h
  cases hv : asInt v with
  | none => rw [hv] at h; cases h
  | some p =>
    obtain ⟨k, i⟩ := p
    rw [hv] at h
    simp only at h
    have hy' := hy.trans (asInt_gv hv)
    split at h
    · next hti =>
      split at h
      · next l hl =>
        cases h
        have hb := hC (0 ≤ i ∧ i < (l.length : Int)) (by simp)
        have e := asS_eq hl; subst e
        refine S_indexStr hy' hd hx ((TT.find_ok hP hti).str rfl) hb.1 ?_
        rw [List.getD_eq_getElem?_getD, List.getElem?_eq_getElem (by omega)]; rfl
      · cases h
    · next m e _ _ _ hti =>
      obtain ⟨_, hT, hs⟩ := (TT.find_ok hP hti).ar m 1 e rfl
      split at h
      · next hte =>
        have hE := TT.find_ok hP hte
        split at h
        · next l =>
          split at h
          · next q hq =>
            cases h
            have hb := hC (0 ≤ i ∧ i < (m : Int)) (by simp)
            rw [nthE_eq] at hq
            exact S_indexAgg hy' hd hx hT hE.agg hs hb.1 hb.2 (by rw [avL_get, hq]; rfl)
          · cases h
        · cases h
      · cases h
    · cases h
end
end Go.Proofs.Ytnopdnclefopbaa
