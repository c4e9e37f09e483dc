/- What is computed of one operation is so: slices made, appends, conversions, built-in functions; all of them. It names no function of the program. -/
import Derived.Test.YtnopdnclefopbaaTr
namespace Go.Proofs.Ytnopdnclefopbaa
open Go.RowKit
set_option linter.unusedVariables false
set_option linter.unusedSimpArgs false

section
variable {P : Program} {E : Env} {kp : List Nat} {n : Nat} {ops : Array Oper} {d : Nat} {ty : TypeId} {ps : String} {af : Array Edge}
variable {tab : TT} {vs : List (Nat × EV)} {bs : List (Nat × EB)} {st : ES}

theorem buildSliceF_ok {T : TypeId} {len : Nat} {parts : Array (Nat × Operand)} {R : RS} (hP : tab.ok P) (S : Sub vs bs st) (h : buildSliceF tab vs d T len parts.toList = some R) (hf : ∀ p ∈ R.hp, st.free kp p.1 = true) (hd : Nat.blt d n = true) :
    Step P E kp n ops ⟨some d, .buildSlice T len parts, ty, ps, af, none⟩ st.as (R.app st).as := by
  unfold buildSliceF at h
  split at h
  · next e sz by_ z _ _ _ _ hti =>
    obtain ⟨_, _, hT, hsz, hz⟩ := (TT.find_ok hP hti).sl e sz by_ z rfl
    split at h
    · next l hl =>
      cases hc : Nat.beq parts.toList.length len && Nat.ble (len * sz) 1000000 with
      | false => rw [hc] at h; cases h
      | true =>
        rw [hc] at h
        simp only [cond_true] at h
        simp only [Bool.and_eq_true] at hc
        have hlen := nat_eq hc.1
        obtain ⟨i, v, t1, t2, t3, t4, t5, t6, t7⟩ := ap_of hT
        have hzl : z.length = sz := by rw [← t7]; simpa using t6
        have hp : parts = parts.toList.toArray := by simp
        have pl : (partsE vs parts.toList).length = len := by
          rw [← hlen]
          generalize parts.toList = q
          induction q with
          | nil => rfl
          | cons a q ih => obtain ⟨i, x⟩ := a; simp [partsE, ih]
        obtain ⟨k1, k2, k3, k4, k5⟩ := elsE_ok len hsz 0 (boxV (zerosV z len)) hl (by omega) (by simp [boxV, zerosV_length, hzl])
        rw [Nat.zero_mul, List.take_zero, List.nil_append] at k1
        rw [pl] at k5
        have fin : ∀ (eb : EB), eb.ob = .row (pvL l) e sz 0 → st.free kp (nmB d) = true → Step P E kp n ops ⟨some d, .buildSlice T len parts, ty, ps, af, none⟩ st.as (RS.app ⟨[], [(d, .osl (nmB d) len)], [(nmB d, eb)]⟩ st).as := fun eb heb hfr => by
          rcases Nat.eq_zero_or_pos len with h0 | h0
          · subst h0
            have hpn : parts = #[] := by
              have : parts.toList = [] := List.eq_nil_of_length_eq_zero hlen
              rw [hp, this]
            have hln : l = [] := List.eq_nil_of_length_eq_zero (by omega)
            rw [hpn]
            refine (S_buildSlice0 (nmB d) hT (by rw [as_free]; exact hfr) hd).cast ?_
            rw [hln] at heb
            simp only [RS.app, ES.as, List.singleton_append, avs, obs, heb, pvL, EV.av]
          · rw [hp]
            refine (S_buildSlice (nmB d) h0 hT hsz hz hc.2 (out := avL l) (qs := pvL l) (by rw [parts_eq S k2]; exact k1) (ones_av _ k3) (toPs_pvL _ k3 k4) (by rw [pvL_length]; exact k5) (by rw [as_free]; exact hfr) hd).cast ?_
            simp only [RS.app, ES.as, List.singleton_append, avs, obs, heb, EV.av]
        split at h
        · next q hq =>
          obtain ⟨q1, q2⟩ := u8sE_ok hq
          cases hu : isU8 tab e sz by_ z with
          | false => rw [hu] at h; cases h; exact fin _ rfl (hf (nmB d, EB.row l e sz 0) (List.mem_singleton.2 rfl))
          | true =>
            rw [hu] at h; cases h
            refine fin _ ?_ (hf (nmB d, EB.rb q e 0) (List.mem_singleton.2 rfl))
            have hsz1 : sz = 1 := (isU8_ok hP hu).2.1
            show OB.row (q.map b8P) e 1 0 = _
            rw [q1, hsz1]
        · cases h; exact fin _ rfl (hf (nmB d, EB.row l e sz 0) (List.mem_singleton.2 rfl))
    · cases h
  · cases h
theorem makeF_ok {T : TypeId} {x y : Operand} {u v : EV} {R : RS} (hP : tab.ok P) (h : makeF tab d T u v = some R) (hC : ∀ c ∈ R.C, c) (hf : ∀ p ∈ R.hp, st.free kp p.1 = true) (hd : Nat.blt d n = true) (hx : Gv (st.as.ev x) u.av) (hy : Gv (st.as.ev y) v.av) :
    Step P E kp n ops ⟨some d, .makeSlice T x y, ty, ps, af, none⟩ st.as (R.app st).as := by
  unfold makeF at h
  split at h
  · next i j h1 h2 =>
    have e1 := asI64_eq h1; have e2 := asI64_eq h2; subst e1 e2
    split at h
    · next e sz by_ z _ _ _ _ hti =>
      obtain ⟨_, _, hT, hsz, hz⟩ := (TT.find_ok hP hti).sl e sz by_ z rfl
      obtain ⟨ii, vv, t1, t2, t3, t4, t5, t6, t7⟩ := ap_of hT
      have hzl : z.length = sz := by rw [← t7]; simpa using t6
      have go : by_ ≤ 10000 → (0 ≤ i ∧ i ≤ j ∧ j ≤ 1000000000) → ∀ eb : EB, eb.ob = .row (zerosP z i.toNat) e sz 0 → st.free kp (nmB d) = true → Step P E kp n ops ⟨some d, .makeSlice T x y, ty, ps, af, none⟩ st.as (RS.app ⟨[0 ≤ i ∧ i ≤ j ∧ j ≤ 1000000000], [(d, .osl (nmB d) i.toNat)], [(nmB d, eb)]⟩ st).as := fun hby hb eb heb hfr => by
        obtain ⟨a, rfl⟩ := Int.eq_ofNat_of_zero_le hb.1
        obtain ⟨b, rfl⟩ := Int.eq_ofNat_of_zero_le (Int.le_trans hb.1 hb.2.1)
        have hm : by_ * b ≤ 281474976710656 := by
          have : by_ * b ≤ 10000 * 1000000000 := Nat.mul_le_mul hby (by omega)
          omega
        refine (S_make (nmB d) hx hy hT hsz hz (by omega) hm (by omega) (by rw [as_free]; exact hfr) hd).cast ?_
        rw [Int.toNat_natCast] at heb
        simp only [RS.app, ES.as, List.singleton_append, avs, obs, heb, EV.av, Int.toNat_natCast]
      cases hu : isU8 tab e sz by_ z with
      | true =>
        rw [hu] at h; cases h
        obtain ⟨_, hsz1, c2, c1⟩ := isU8_ok hP hu
        refine go c2 (hC _ (List.mem_singleton.2 rfl)) _ ?_ (hf (nmB d, EB.rb (List.replicate i.toNat 0) e 0) (List.mem_singleton.2 rfl))
        show OB.row ((List.replicate i.toNat 0).map b8P) e 1 0 = _
        rw [c1, zerosP_one, hsz1, List.map_replicate]; rfl
      | false =>
        rw [hu] at h
        simp only [cond_false] at h
        cases hb : Nat.ble by_ 10000 with
        | false => rw [hb] at h; cases h
        | true =>
          rw [hb] at h; cases h
          refine go (Nat.le_of_ble_eq_true hb) (hC _ (List.mem_singleton.2 rfl)) _ ?_ (hf (nmB d, EB.rz i.toNat sz (zF z) e 0) (List.mem_singleton.2 rfl))
          show OB.row (lzC i.toNat sz (zF z)) e sz 0 = _
          have : ∀ k, lzC k sz (zF z) = zerosP z k := by
            intro k
            induction k with
            | zero => rfl
            | succ k ih =>
              have e0 := lzC_add 1 k sz (zF z)
              rw [Nat.add_comm 1 k] at e0
              have e1 : (fun a b => zF z (1 + a) b) = zF z := rfl
              rw [e0, e1, ih]
              show _ = z.map .v ++ zerosP z k
              congr 1
              unfold lzC
              simp only [List.range_one, List.flatMap_cons, List.flatMap_nil, List.append_nil]
              apply List.ext_getElem?
              intro q
              rw [List.getElem?_map, List.getElem?_map, ← hzl]
              by_cases hq : q < z.length
              · rw [List.getElem?_range hq, List.getElem?_eq_getElem hq]
                simp [zF, EV.pv, List.getD_eq_getElem?_getD, hq]
              · rw [List.getElem?_eq_none (by simpa using hq), List.getElem?_eq_none (by omega)]; rfl
          rw [this]
    · cases h
  · cases h
def SrcE.pvs : SrcE → List PV
  | .by_ l => l.map b8P
  | .lz n sz f => lzC n sz f
  | .cs l _ => pvL l
def EB.pvs : EB → List PV
  | .rb l _ _ => l.map b8P
  | .rz n sz f _ _ => lzC n sz f
  | .row l _ _ _ => pvL l
  | _ => []
theorem srcF_ok {y : Operand} {v : EV} {src : SrcE} {C : List Prop} {sz : Nat} (S : Sub vs bs st) (h : srcF bs sz v = some (C, src)) (hC : ∀ c ∈ C, c) (hs : src.szOk sz = true) (hC2 : ∀ c ∈ src.okC sz, c) (hsz : 0 < sz) (hy : Gv (st.as.ev y) v.av) :
    SrcOk st.as sz (st.as.ev y) src.len src.pvs := by
  unfold srcF at h
  split at h
  · next l =>
    cases h
    have e := nat_eq hs; subst e
    exact SrcOk.sl hy (by simp [SrcE.len, SrcE.pvs]) hsz
  · next m z f =>
    cases h
    have e := nat_eq hs; subst e
    exact SrcOk.sl (cells := lzC m z f) (by have h3 := hy; unfold EV.av EV.pv at h3; exact h3) (lz_len m z f) hsz
  · next l m =>
    cases h
    have e := hC2 (l.length = m * sz) (by simp [SrcE.okC])
    exact SrcOk.sl hy ((pvL_length l).trans e) hsz
  · cases h; exact SrcOk.nil hy
  · next r m =>
    split at h
    · next l t pub hb =>
      cases h
      have e := nat_eq hs; subst e
      have e2 : m = l.length := hC (m = l.length) (by simp)
      subst e2
      exact SrcOk.osl hy (S.ob hb (by simp)) (by simp [SrcE.len, SrcE.pvs]) hsz
    · next m' z f t pub hb =>
      cases h
      have e := nat_eq hs; subst e
      have e2 : m = m' := hC (m = m') (by simp)
      subst e2
      exact SrcOk.osl hy (S.ob hb (by simp)) (lz_len m z f).symm hsz
    · next l t z pub hb =>
      cases hz : Nat.beq z sz with
      | false => rw [hz] at h; cases h
      | true =>
      rw [hz] at h; cases h
      have e1 := nat_eq hz; subst e1
      have e := hC2 (l.length = m * z) (by simp [SrcE.okC])
      exact SrcOk.osl hy (S.ob hb (by simp)) ((pvL_length l).trans e).symm hsz
    · cases h
  · cases h
theorem joinF_ok {e : TypeId} {sz pub : Nat} {eb eb' : EB} {src : SrcE} (h : joinF e sz pub eb src = some eb') (hk : eb.okSz sz e = true) (hs : src.szOk sz = true) (hC2 : ∀ c ∈ src.okC sz, c) : eb'.ob = .row (eb.pvs ++ src.pvs) e sz pub ∧ eb.ob = .row eb.pvs e sz eb.pub := by
  unfold joinF at h
  split at h
  · next l t p m =>
    cases h
    simp only [EB.okSz, Bool.and_eq_true] at hk
    have e1 := nat_eq hk.1; have e2 := nat_eq hk.2; subst e1 e2
    exact ⟨by simp [EB.ob, EB.pvs, SrcE.pvs], rfl⟩
  · next l t p c m =>
    split at h
    · next q hq =>
      cases h
      simp only [EB.okSz, Bool.and_eq_true] at hk
      have e1 := nat_eq hk.1; have e2 := nat_eq hk.2; subst e1 e2
      exact ⟨by simp [EB.ob, EB.pvs, SrcE.pvs, (u8sE_ok hq).1], rfl⟩
    · cases h
  · next l t z p m k =>
    cases h
    simp only [EB.okSz, Bool.and_eq_true] at hk
    have e1 := nat_eq hk.1; have e2 := nat_eq hk.2; subst e1 e2
    exact ⟨by simp [EB.ob, EB.pvs, SrcE.pvs, pvL_append], rfl⟩
  · next n' z f t p m k =>
    cases hc : Nat.beq z sz with
    | false => rw [hc] at h; cases h
    | true =>
      rw [hc] at h; cases h
      simp only [EB.okSz, Bool.and_eq_true] at hk
      have e1 := nat_eq hk.1; have e2 := nat_eq hk.2; subst e1 e2
      have e3 := hC2 (m.length = k * z) (by simp [SrcE.okC])
      refine ⟨?_, rfl⟩
      show OB.row (lzC (n' + k) z _) t z pub = OB.row (lzC n' z f ++ pvL m) t z pub
      rw [lzC_add, ← lzC_of k z m e3]
      congr 2
      · exact lzC_ext fun i hi j hj => by rw [show Nat.blt i n' = true from (Nat.blt_eq).mpr hi]; rfl
      · exact lzC_ext fun i hi j hj => by
          have : Nat.blt (n' + i) n' = false := by
            cases hb : Nat.blt (n' + i) n' with
            | false => rfl
            | true => rw [Nat.blt_eq] at hb; omega
          rw [this, show n' + i - n' = i from by omega]; rfl
  · next n' z f t p k z2 g =>
    cases hc : Nat.beq z sz && Nat.beq z2 sz with
    | false => rw [hc] at h; cases h
    | true =>
      rw [hc] at h; cases h
      simp only [Bool.and_eq_true] at hc
      simp only [EB.okSz, Bool.and_eq_true] at hk
      have e1 := nat_eq hk.1; have e2 := nat_eq hk.2; have e3 := nat_eq hc.2; subst e1 e2 e3
      refine ⟨?_, rfl⟩
      show OB.row (lzC (n' + k) z2 _) t z2 pub = OB.row (lzC n' z2 f ++ lzC k z2 g) t z2 pub
      rw [lzC_add]
      congr 2
      · exact lzC_ext fun i hi j hj => by rw [show Nat.blt i n' = true from (Nat.blt_eq).mpr hi]; rfl
      · exact lzC_ext fun i hi j hj => by
          have : Nat.blt (n' + i) n' = false := by
            cases hb : Nat.blt (n' + i) n' with
            | false => rfl
            | true => rw [Nat.blt_eq] at hb; omega
          rw [this, show n' + i - n' = i from by omega]; rfl
  · cases h
theorem newF_ok {e : TypeId} {sz : Nat} {src : SrcE} (hs : src.szOk sz = true) : (newF e sz src).ob = .row src.pvs e sz 0 := by
  cases src with
  | by_ l => have e1 := nat_eq hs; subst e1; rfl
  | lz m z f => have e1 := nat_eq hs; subst e1; rfl
  | cs l m => rfl
/-- An append to a nil slice. -/
theorem S_appendNil {st : AS} {T e : TypeId} {x y : Operand} {sz bytes m : Nat} {news : List PV} {z : List Value} (r' r0 : Nat) (hx : Gv (st.ev x) (.p (.v (.slice none 0 0))))
    (hs : SrcOk st sz (st.ev y) m news) (hT : apOf P T = some (e, sz, bytes, z)) (hsz : 0 < sz) (hb : m * bytes ≤ 140737488355328) (hm : m ≤ 140737488355328) (hf : st.free kp r' = true) (hf0 : st.free kp r0 = true) (hne : r0 ≠ r') (hd : Nat.blt d n = true) :
    Step P E kp n ops ⟨some d, .call { callee := .builtin .append, args := #[x, y], argTypes := #[T, T] }, ty, ps, af, none⟩ st ⟨(d, .osl r' m) :: st.slots, (r', .row news e sz 0) :: st.heap⟩ := by
  refine Step.val rfl fun a w ⟨φ, Pub, I, h0, hnn, hsl⟩ => ?_
  obtain ⟨f1, f2, f3, f4⟩ := free_split hf
  obtain ⟨g1, g2, g3, g4⟩ := free_split hf0
  obtain ⟨i, v, t1, t2, t3, t4, t5, t6, t7⟩ := ap_of hT
  obtain ⟨ad, c, vs, e1, c1, c2⟩ := hs E kp φ Pub w _ I (ev_R (h := st.heap) hsl y)
  have I0 := I.nilRow g1 g2 g4 e sz 0
  have hu : RA w Pub (fun q => if q = r0 then none else φ q) (.osl r0 0) (a.eval x) := by
    unfold RA; exact .inr ⟨if_pos rfl, rfl, hx.v (ev_R (h := st.heap) hsl x)⟩
  have hl0 : look OB.dead ((r0, OB.row [] e sz 0) :: st.heap) r0 = .row [] e sz 0 := by rw [look_cons, if_pos rfl]
  obtain ⟨v', w', g, hr, I', hR, H⟩ := I0.append (P := P) (r' := r') hl0 hu (by simp) (by rw [look_cons, if_neg hne]; exact f1) (by simp only [hHas, OB.has, Bool.false_or]; exact f2) f4 T ty i v bytes t1 t2 t3 t4 t5 t6 hsz ad m c vs c1 c2 (by unfold maxLen; omega) (by simpa using hb)
  refine ⟨v', w', ?_, ?_⟩
  · simp only [execOp, resolve, invoke, builtin, Sem.run_bind, Sem.run_pure, Result.andThen_ok, List.map_toArray, List.map_cons, List.map_nil, e1, hr]
  · have k := Sat.put I' h0 hnn (fun s => RA_rename H (look_sHas f3) (RA_rename (r := r0) (g := none) (Adv.refl _ _) (look_sHas g3) (hsl s))) hd hR
    refine k.congr (fun s => ?_) (fun r => ?_)
    · show look AV.any ((d, .osl r' m) :: st.slots) s = look AV.any ((d, .osl r' (0 + m)) :: st.slots) s
      rw [Nat.zero_add]
    · show look OB.dead ((r', OB.row news e sz 0) :: st.heap) r = look OB.dead ((r', OB.row ([] ++ news) e sz 0) :: (r0, .dead) :: (r0, .row [] e sz 0) :: st.heap) r
      rw [List.nil_append, look_cons, look_cons]
      split
      · rfl
      · rw [look_cons]
        split
        · next e2 => subst e2; cases hz : look OB.dead st.heap r0 <;> rw [hz] at g1 <;> first | rfl | cases g1
        · next e2 => rw [look_cons, if_neg e2]
theorem nm_ne {d : Nat} (h : Nat.blt d 400000 = true) : nmZ d ≠ nmB d := by unfold nmZ nmB; omega
theorem appendF_ok {T : TypeId} {x y : Operand} {u v : EV} {R : RS} (hP : tab.ok P) (S : Sub vs bs st) (h : appendF tab bs d T u v = some R) (hC : ∀ c ∈ R.C, c) (hf : ∀ p ∈ R.hp, (ob_ bs p.1).alive = true ∨ st.free kp p.1 = true) (hnd : (ob_ bs (nmB d)).alive = false) (hnz : (ob_ bs (nmZ d)).alive = false)
    (hd : Nat.blt d n = true) (hx : Gv (st.as.ev x) u.av) (hy : Gv (st.as.ev y) v.av) :
    Step P E kp n ops ⟨some d, .call { callee := .builtin .append, args := #[x, y], argTypes := #[T, T] }, ty, ps, af, none⟩ st.as (R.app st).as := by
  unfold appendF at h
  split at h
  · next e sz by_ z _ _ _ _ hti =>
    obtain ⟨_, _, hT, hsz, hz⟩ := (TT.find_ok hP hti).sl e sz by_ z rfl
    cases hc : Nat.ble by_ 10000 && Nat.ble 1 sz with
    | false => rw [hc] at h; cases h
    | true =>
      rw [hc] at h
      simp only [cond_true] at h
      simp only [Bool.and_eq_true, Nat.ble_eq] at hc
      split at h
      · next C src hsrc =>
        cases hs : src.szOk sz with
        | false => rw [hs] at h; cases h
        | true =>
          rw [hs] at h
          simp only [cond_true] at h
          split at h
          · next r m =>
            cases hk : (ob_ bs r).okSz sz e with
            | false => rw [hk] at h; cases h
            | true =>
              rw [hk] at h
              simp only [cond_true] at h
              split at h
              · next eb hj =>
                cases h
                have hC1 : ∀ c ∈ C, c := fun c hc => hC c (List.mem_append_left _ hc)
                have hC2 : ∀ c ∈ src.okC sz, c := fun c hc => hC c (List.mem_append_right _ (List.mem_append_left _ hc))
                have hC3 : ∀ c ∈ (ob_ bs r).lenC sz m, c := fun c hc => hC c (List.mem_append_right _ (List.mem_append_right _ (List.mem_append_left _ hc)))
                have hC4 : m + src.len ≤ 1000000000 := hC _ (List.mem_append_right _ (List.mem_append_right _ (List.mem_append_right _ (List.mem_singleton.2 rfl))))
                obtain ⟨j1, j2⟩ := joinF_ok hj hk hs hC2
                have hl : st.as.ob r = .row (ob_ bs r).pvs e sz (ob_ bs r).pub := by
                  rw [S.ob rfl (by intro e2; rw [e2] at hk; cases hk), j2]
                have hn : m * sz = (ob_ bs r).pvs.length := by
                  cases hq : ob_ bs r with
                  | rb l t p =>
                    rw [hq] at hC3 hk
                    simp only [EB.okSz, Bool.and_eq_true] at hk
                    have e1 := nat_eq hk.1; subst e1
                    have := hC3 (m = l.length) (by simp [EB.lenC])
                    simp [EB.pvs, this]
                  | rz m' z' f t p =>
                    rw [hq] at hC3 hk
                    simp only [EB.okSz, Bool.and_eq_true] at hk
                    have e1 := nat_eq hk.1; subst e1
                    have := hC3 (m = m') (by simp [EB.lenC])
                    rw [this]; exact (lz_len m' z' f).symm
                  | row l t z' p =>
                    rw [hq] at hC3 hk
                    have := hC3 (m * sz = l.length) (by simp [EB.lenC])
                    simp [EB.pvs, this, pvL_length]
                  | box _ _ => rw [hq] at hk; cases hk
                  | dead => rw [hq] at hk; cases hk
                  | bz _ _ _ => rw [hq] at hk; cases hk
                have hfr : st.free kp (nmB d) = true := by
                  rcases hf (nmB d, eb) (by simp) with k | k
                  · rw [hnd] at k; cases k
                  · exact k
                refine (S_append (nmB d) hx hl hn (srcF_ok S hsrc hC1 hs hC2 hsz hy) hT hsz (by
                  have : (m + src.len) * by_ ≤ 1000000000 * 10000 := Nat.mul_le_mul hC4 hc.1
                  omega) (by omega) (by rw [as_free]; exact hfr) hd).cast ?_
                rw [← j1]; rfl
              · cases h
          · cases h
            have hC1 : ∀ c ∈ C, c := fun c hc => hC c (List.mem_append_left _ hc)
            have hC2 : ∀ c ∈ src.okC sz, c := fun c hc => hC c (List.mem_append_right _ (List.mem_append_left _ hc))
            have hC4 : src.len ≤ 1000000000 := hC _ (List.mem_append_right _ (List.mem_append_right _ (List.mem_singleton.2 rfl)))
            have hfr : st.free kp (nmB d) = true := by
              rcases hf (nmB d, newF e sz src) (by simp) with k | k
              · rw [hnd] at k; cases k
              · exact k
            have hfz : st.free kp (nmZ d) = true := by
              rcases hf (nmZ d, .dead) (by simp) with k | k
              · rw [hnz] at k; cases k
              · exact k
            refine (S_appendNil (nmB d) (nmZ d) hx (srcF_ok S hsrc hC1 hs hC2 hsz hy) hT hsz (by
                  have : src.len * by_ ≤ 1000000000 * 10000 := Nat.mul_le_mul hC4 hc.1
                  omega) (by omega) (by rw [as_free]; exact hfr) (by rw [as_free]; exact hfz) (by unfold nmZ nmB; omega) hd).wk ?_
            intro a w hsat
            refine Sat.congr (st := AS.mk ((d, .osl (nmB d) src.len) :: st.as.slots) ((nmB d, .row src.pvs e sz 0) :: st.as.heap)) (fun s => rfl) (fun r => ?_) hsat
            show look OB.dead ((nmB d, (newF e sz src).ob) :: (nmZ d, .dead) :: obs st.heap) r = look OB.dead ((nmB d, .row src.pvs e sz 0) :: obs st.heap) r
            rw [newF_ok hs]
            by_cases e1 : nmB d = r
            · rw [look_cons, if_pos e1, look_cons, if_pos e1]
            · rw [look_cons, if_neg e1, look_cons]
              rw [look_cons, if_neg e1]
              split
              · next e2 =>
                subst e2
                have := (free_split (st := st.as) (kp := kp) (r := nmZ d) (by rw [as_free]; exact hfz)).1
                have h2 : look OB.dead (obs st.heap) (nmZ d) = look OB.dead st.as.heap (nmZ d) := rfl
                rw [h2]
                cases hz : look OB.dead st.as.heap (nmZ d) <;> rw [hz] at this <;> first | rfl | cases this
              · rfl
          · cases h
      · cases h
  · cases h
end
end Go.Proofs.Ytnopdnclefopbaa
