/- What is computed of one operation is so: all of them. It names no function of the program. -/
import Derived.Test.YtnopdnclefopbaaTu
namespace Go.Proofs.Ytnopdnclefopbaa
open Go.RowKit
set_option linter.unusedVariables false
set_option linter.unusedSimpArgs false

section
variable {P : Program} {E : Env} {kp : List Nat} {n : Nat} {ops : Array Oper} {d : Nat} {ty : TypeId} {ps : String} {af : Array Edge}
variable {tab : TT} {vs : List (Nat × EV)} {bs : List (Nat × EB)} {st : ES}

theorem asI64_gv {x : EV} {i : Int} (h : asI64 x = some i) : Gv x.av (.p (i64P i)) := by rw [asI64_eq h]; exact Gv.r
theorem under_of {T : TypeId} {ti : TI} (h : TIok P T ti) : ∃ dd, P.underlying T = some dd := by
  have := h.agg
  unfold aggOf at this
  cases hq : P.underlying T with
  | none => rw [hq] at this; cases this
  | some dd => exact ⟨dd, rfl⟩
theorem convAnyF_ok {T T' : TypeId} {x : Operand} {R : RS} (hP : tab.ok P) (S : Sub vs bs st) (h : convAnyF tab vs bs d T T' x = some R) (hC : ∀ c ∈ R.C, c) (hf : ∀ p ∈ R.hp, (ob_ bs p.1).alive = true ∨ st.free kp p.1 = true) (hnd : (ob_ bs (nmB d)).alive = false) (hd : Nat.blt d n = true) :
    Step P E kp n ops ⟨some d, .convert T T' x, ty, ps, af, none⟩ st.as (R.app st).as := by
  unfold convAnyF at h
  split at h
  · next k _ _ _ _ k' _ _ _ _ hti hti' =>
    have hT := TT.find_ok hP hti
    have hT' := TT.find_ok hP hti'
    split at h
    · next k2 =>
      split at h
      · next y hy =>
        cases h
        obtain ⟨dd, hdd⟩ := under_of hT
        exact convF_ok hy hdd (hT'.int _ rfl) hd (S.v x)
      · cases h
    · split at h
      · split at h
        · next l hl =>
          cases h
          have e := asS_eq hl
          exact S_convStr (by have := S.v x; rw [e] at this; exact this) (hT.str rfl) (hT'.str rfl) hd
        · cases h
      · next e sz by_ z =>
        cases hu : isU8 tab e sz by_ z with
        | false => rw [hu] at h; cases h
        | true =>
          rw [hu] at h
          simp only [cond_true] at h
          obtain ⟨u1, u2, u3, u4⟩ := isU8_ok hP hu
          obtain ⟨s1, _⟩ := hT.sl e sz by_ z rfl
          split at h
          · next l R' hR =>
            cases h
            obtain ⟨k1, k2, k3⟩ := frz_ok (E := E) (kp := kp) (n := n) S hR hC
            exact (S_bytesStr (st := (R'.app st).as) k2 s1 u1 (hT'.str rfl) hd).pre k1
          · next R' hR =>
            cases h
            obtain ⟨k1, k2, k3⟩ := frz_ok (E := E) (kp := kp) (n := n) S hR hC
            have g : Gv ((R'.app st).as.ev x) (.p (bytesP [])) := k2.trans (by
              show Gv (.p (.v (.slice none 0 0))) (.p (.sl [] 0))
              exact Gv.nilSl)
            exact (S_bytesStr (st := (R'.app st).as) g s1 u1 (hT'.str rfl) hd).pre k1
          · cases h
      · cases h
    · next e sz by_ z =>
      split at h
      · cases hu : isU8 tab e sz by_ z with
        | false => rw [hu] at h; cases h
        | true =>
          rw [hu] at h
          simp only [cond_true] at h
          obtain ⟨u1, u2, u3, u4⟩ := isU8_ok hP hu
          obtain ⟨s1, _⟩ := hT'.sl e sz by_ z rfl
          split at h
          · next l hl =>
            cases h
            have e1 := asS_eq hl
            have hfr : st.free kp (nmB d) = true := by
              rcases hf (nmB d, .rb l e 0) (by simp) with k | k
              · rw [hnd] at k; cases k
              · exact k
            have hlen : l.length ≤ 1000000000 := hC _ (List.mem_singleton.2 rfl)
            exact S_strBytes (nmB d) (by have := S.v x; rw [e1] at this; exact this) (hT.str rfl) s1 u1 (by omega) (by rw [as_free]; exact hfr) hd
          · cases h
      · obtain ⟨hc, h2⟩ := bif_some h
        clear h
        simp only [Bool.and_eq_true] at hc
        have eT := nat_eq hc.1; subst eT
        obtain ⟨u1, u2, u3, u4⟩ := isU8_ok hP hc.2
        obtain ⟨s1, _⟩ := hT'.sl e sz by_ z rfl
        split at h2
        · next r m hx =>
          split at h2
          · next l t pub hb =>
            cases h2
            exact S_markStr (by have := S.v x; rw [hx] at this; exact this) (S.ob hb (by simp)) s1 u1 (hC _ (List.mem_singleton.2 rfl)) hd
          · cases h2
        · cases h2
      · cases h
    · cases h
  · cases h
theorem optE_map (o : Option Operand) : optE vs o = o.map (evOf vs) := by cases o <;> rfl
theorem sliceF_ok {T : TypeId} {x : Operand} {lo hi : Option Operand} {R : RS} (hP : tab.ok P) (S : Sub vs bs st) (h : sliceF tab vs bs d T x lo hi = some R) (hC : ∀ c ∈ R.C, c) (hd : Nat.blt d n = true) :
    Step P E kp n ops ⟨some d, .slice T x lo hi none, ty, ps, af, none⟩ st.as (R.app st).as := by
  unfold sliceF at h
  split at h
  · next y R' hR =>
    split at h
    · next C z hz =>
      cases h
      have hC1 : ∀ c ∈ R'.C, c := fun c hc => hC c (List.mem_append_left _ hc)
      have hC2 : ∀ c ∈ C, c := fun c hc => hC c (List.mem_append_right _ hc)
      obtain ⟨k1, k2, k3⟩ := frz_ok (E := E) (kp := kp) (n := n) S hR hC1
      rw [optE_map, optE_map] at hz
      refine (cutF_ok (st := (R'.app st).as) hP hz hC2 hd k2 (fun q _ hi => ?_)).pre k1
      rw [k3 q (fun r m e => by rw [e] at hi; cases hi)]
      exact S.v q
    · cases h
  · cases h
theorem lenF_ok {T : TypeId} {x : Operand} {u : EV} {i : Int} {st : AS} {ti : TI} (hT : TIok P T ti) (h : lenF u = some i) (hk : (∃ e sz b z, ti.k = .sl e sz b z) ∨ ti.k = .str) (hok : (∃ e sz b z, ti.k = .sl e sz b z) → asS u = none) (hok2 : ti.k = .str → (asS u).isSome = true) (hd : Nat.blt d n = true) (hx : Gv (st.ev x) u.av) :
    Step P E kp n ops ⟨some d, .call { callee := .builtin .len, args := #[x], argTypes := #[T] }, ty, ps, af, none⟩ st (st.put d (EV.i i).av) := by
  rcases hk with ⟨e, sz, b, z, hk⟩ | hk
  · obtain ⟨_, hs, _⟩ := hT.sl e sz b z hk
    have hn := hok ⟨e, sz, b, z, hk⟩
    unfold lenF at h
    split at h
    · next l => cases h; exact S_lenSl (m := l.length) hd hx hs
    · next m s f => cases h; exact S_lenSl (m := m) (cells := lzC m s f) hd (by have h3 := hx; unfold EV.av EV.pv at h3; exact h3) hs
    · next m => cases h; exact S_lenSl hd hx hs
    · next r m => cases h; exact S_lenOsl hd hx hs
    · next a m c => cases h; exact S_lenNil hd hx hs
    · simp [asS] at hn
    · cases h
  · have hs := hT.str hk
    have hn := hok2 hk
    cases ha : asS u with
    | none => rw [ha] at hn; cases hn
    | some l =>
      have e := asS_eq ha; subst e
      unfold lenF at h
      cases h
      exact S_lenStr hd hx hs
theorem arr1 {α : Type} {a : Array α} {x : α} (h : a.toList = [x]) : a = #[x] := by cases a; simp at h; rw [h]
theorem arr2 {α : Type} {a : Array α} {x y : α} (h : a.toList = [x, y]) : a = #[x, y] := by cases a; simp at h; rw [h]
theorem builtinF_ok {b : Builtin} {args : Array Operand} {argTypes : Array TypeId} {R : RS} (hP : tab.ok P) (S : Sub vs bs st) (h : builtinF tab vs bs d b args.toList ty argTypes.toList = some R) (hC : ∀ c ∈ R.C, c)
    (hf : ∀ p ∈ R.hp, (ob_ bs p.1).alive = true ∨ st.free kp p.1 = true) (hnd : (ob_ bs (nmB d)).alive = false) (hnz : (ob_ bs (nmZ d)).alive = false) (hd : Nat.blt d n = true) :
    Step P E kp n ops ⟨some d, .call { callee := .builtin b, args := args, argTypes := argTypes }, ty, ps, af, none⟩ st.as (R.app st).as := by
  unfold builtinF at h
  split at h
  · next x T h1 h2 =>
    have e1 := arr1 h1; have e2 := arr1 h2; subst e1 e2
    split at h
    · next e sz by_ z _ _ _ _ hti =>
      cases hs : asS (evOf vs x) with
      | some l => rw [hs] at h; cases h
      | none =>
        rw [hs] at h
        simp only at h
        cases hl : lenF (evOf vs x) with
        | none => rw [hl] at h; cases h
        | some i => rw [hl] at h; cases h; exact lenF_ok (TT.find_ok hP hti) hl (.inl ⟨_, _, _, _, rfl⟩) (fun _ => hs) (fun k => by cases k) hd (S.v x)
    · next hti =>
      cases hs : asS (evOf vs x) with
      | none => rw [hs] at h; cases h
      | some l =>
        rw [hs] at h; cases h
        refine lenF_ok (u := .s l) (TT.find_ok hP hti) rfl (.inr rfl) (fun ⟨_, _, _, _, k⟩ => by cases k) (fun _ => rfl) hd (by have := S.v x; rw [asS_eq hs] at this; exact this)
    · cases h
  · next x y T T' h1 h2 =>
    have e1 := arr2 h1; have e2 := arr2 h2; subst e1 e2
    split at h
    · next e s z zz _ _ _ _ hti =>
      cases hs : Nat.beq s 1 with
      | false => rw [hs] at h; cases h
      | true =>
        rw [hs] at h
        simp only [cond_true] at h
        have es := nat_eq hs; subst es
        split at h
        · next r m hx =>
          split at h
          · next l t pub ho =>
            cases ht : Nat.beq t e with
            | false => rw [ht] at h; cases h
            | true =>
              rw [ht] at h
              simp only [cond_true] at h
              have et := nat_eq ht; subst et
              have gx := S.v x; rw [hx] at gx
              have gy := S.v y
              have hob := S.ob ho (by simp)
              have hT := ((TT.find_ok hP hti).sl _ _ _ _ rfl).2.1
              split at h
              · next q hq =>
                cases h
                have c1 : m = l.length := hC (m = l.length) (by simp)
                have c2 : 0 < m := hC (0 < m) (by simp)
                have c3 : pub = 0 := hC (pub = 0) (by simp)
                have em : putL (l.map b8P) 0 ((q.take m).map b8P) = (q.take m ++ l.drop (q.take m).length).map b8P := by
                  rw [putL_copy _ _ (by simp; omega), List.map_append, List.map_drop, List.length_map]
                have eb : (EB.rb (q.take m ++ l.drop (q.take m).length) t pub).ob = .row (putL (l.map b8P) 0 ((q.take m).map b8P)) t 1 pub := by rw [em]; rfl
                split at hq
                · next m' hm' =>
                  cases hq
                  have := asS_eq hm'
                  rw [this] at gy
                  refine (S_copyStr (T2 := T') gx hob gy hT (by rw [List.length_map]; omega) c2 c3 hd).cast ?_
                  show AS.mk _ _ = AS.mk ((d, EV.av (.i _)) :: st.as.slots) ((r, EB.ob _) :: st.as.heap)
                  rw [eb]; rfl
                · split at hq
                  · next m' hm' =>
                    cases hq
                    rw [hm'] at gy
                    refine (S_copyBs (T2 := T') gx hob gy hT (by rw [List.length_map]; omega) c2 c3 hd).cast ?_
                    show AS.mk _ _ = AS.mk ((d, EV.av (.i _)) :: st.as.slots) ((r, EB.ob _) :: st.as.heap)
                    rw [eb]; rfl
                  · cases hq
              · cases h
          · cases h
        · cases h
    · cases h
  · next x y T T' h1 h2 =>
    have e1 := arr2 h1; have e2 := arr2 h2; subst e1 e2
    cases hc : Nat.beq T T' with
    | false => rw [hc] at h; cases h
    | true =>
      rw [hc] at h
      have e := nat_eq hc; subst e
      exact appendF_ok hP S h hC hf hnd hnz hd (S.v x) (S.v y)
  · next x y T1 T2 h1 h2 =>
    have e1 := arr2 h1; have e2 := arr2 h2; subst e1 e2
    split at h
    · next hti =>
      split at h
      · next i j hi hj => cases h; exact S_min ((S.v x).trans (asI64_gv hi)) ((S.v y).trans (asI64_gv hj)) hd ((TT.find_ok hP hti).int _ rfl)
      · cases h
    · split at h
      · next i j hi hj => cases h; exact S_minS (by have := S.v x; rw [asS_eq hi] at this; exact this) (by have := S.v y; rw [asS_eq hj] at this; exact this) hd
      · cases h
    · cases h
  · next x y T1 T2 h1 h2 =>
    have e1 := arr2 h1; have e2 := arr2 h2; subst e1 e2
    split at h
    · next hti =>
      split at h
      · next i j hi hj => cases h; exact S_max ((S.v x).trans (asI64_gv hi)) ((S.v y).trans (asI64_gv hj)) hd ((TT.find_ok hP hti).int _ rfl)
      · cases h
    · next hti =>
      split at h
      · next i j hi hj => cases h; exact S_max8 ((S.v x).trans (asU8_gv hi)) ((S.v y).trans (asU8_gv hj)) hd ((TT.find_ok hP hti).int _ rfl)
      · cases h
    · split at h
      · next i j hi hj => cases h; exact S_maxS (by have := S.v x; rw [asS_eq hi] at this; exact this) (by have := S.v y; rw [asS_eq hj] at this; exact this) hd
      · cases h
    · cases h
  · cases h
theorem buildSliceF_hp {T : TypeId} {len : Nat} {parts : List (Nat × Operand)} {R : RS} (h : buildSliceF tab vs d T len parts = some R) : ∀ p ∈ R.hp, p.1 = nmB d := by
  unfold buildSliceF at h
  split at h
  · next e sz by_ z _ _ _ _ hti =>
    split at h
    · next l hl =>
      cases hc : Nat.beq parts.length len && Nat.ble (len * sz) 1000000 with
      | false => rw [hc] at h; cases h
      | true =>
        rw [hc] at h
        simp only [cond_true] at h
        split at h
        · cases hu : isU8 tab e sz by_ z with
          | false => rw [hu] at h; cases h; intro p hp; rw [List.mem_singleton.1 hp]
          | true => rw [hu] at h; cases h; intro p hp; rw [List.mem_singleton.1 hp]
        · cases h; intro p hp; rw [List.mem_singleton.1 hp]
    · cases h
  · cases h
theorem makeF_hp {T : TypeId} {x y : EV} {R : RS} (h : makeF tab d T x y = some R) : ∀ p ∈ R.hp, p.1 = nmB d := by
  unfold makeF at h
  split at h
  · split at h
    · next e sz by_ z _ _ _ _ hti =>
      cases hu : isU8 tab e sz by_ z with
      | true => rw [hu] at h; cases h; intro p hp; rw [List.mem_singleton.1 hp]
      | false =>
        rw [hu] at h
        simp only [cond_false] at h
        cases hb : Nat.ble by_ 10000 with
        | false => rw [hb] at h; cases h
        | true => rw [hb] at h; cases h; intro p hp; rw [List.mem_singleton.1 hp]
    · cases h
  · cases h
/-- **What is computed of an operation is so.** -/
theorem opF_ok {wr : Bool} {o : Op} {R : RS} (hP : tab.ok P) (S : Sub vs bs st) (h : opF tab vs bs d wr ty o = some R) (hC : ∀ c ∈ R.C, c)
    (hf : ∀ p ∈ R.hp, (ob_ bs p.1).alive = true ∨ st.free kp p.1 = true) (hnd : (ob_ bs (nmB d)).alive = false) (hnz : (ob_ bs (nmZ d)).alive = false) (hd : Nat.blt d n = true) :
    Step P E kp n ops ⟨some d, o, ty, ps, af, none⟩ st.as (R.app st).as := by
  have fr : ∀ eb : EB, (nmB d, eb) ∈ R.hp → st.free kp (nmB d) = true := fun eb hm => by
    rcases hf _ hm with k | k
    · rw [hnd] at k; cases k
    · exact k
  have one : ∀ {C : List Prop} {z : EV}, Step P E kp n ops ⟨some d, o, ty, ps, af, none⟩ st.as (st.as.put d z.av) → R = ⟨C, [(d, z)], []⟩ → Step P E kp n ops ⟨some d, o, ty, ps, af, none⟩ st.as (R.app st).as := fun k e => by subst e; exact k
  have oneO' : ∀ {q : Option (List Prop × EV)}, oneO d q = some R → ∃ C z, q = some (C, z) ∧ R = ⟨C, [(d, z)], []⟩ := fun {q} k => by
    unfold oneO at k
    split at k
    · next C z => cases k; exact ⟨C, z, rfl, rfl⟩
    · cases k
  unfold opF at h
  split at h
  · rw [EV.fc_eq] at h; cases h; exact S_mv (.inl rfl) hd (S.v _)
  · rw [EV.fc_eq] at h; cases h; exact S_mv (.inr rfl) hd (S.v _)
  · next x =>
    split at h
    · next g hg => cases h; exact S_not (by have := S.v x; rw [asB_eq hg] at this; exact this) hd
    · cases h
  · next x =>
    split at h
    · next i hi =>
      obtain ⟨C, z, k1, k2⟩ := oneO' h
      have hx : Gv (st.as.ev x) (.p (i64P i)) := (S.v x).trans (asI64_gv hi)
      refine one ?_ k2
      subst k2
      unfold arF at k1
      cases wr with
      | true => cases k1; exact S_neg hx rfl hd
      | false =>
        cases k1
        have := hC (-9223372036854775808 ≤ -i ∧ -i ≤ 9223372036854775807) (by simp)
        exact S_neg hx (w64 this.1 this.2) hd
    · cases h
  · next x =>
    split at h
    · next y hy => cases h; exact notF_ok hy hd (S.v x)
    · cases h
  · next op T x y _ =>
    split at h
    · next hti =>
      split at h
      · next i j hi hj =>
        split at h
        · next z hz =>
          cases h
          exact boolF_ok hz ((TT.find_ok hP hti).bool rfl) hd (by have := S.v x; rw [asB_eq hi] at this; exact this) (by have := S.v y; rw [asB_eq hj] at this; exact this)
        · cases h
      · cases h
    · next hti =>
      obtain ⟨hn, h⟩ := bif_some h
      have gy := S.v y; rw [isNilE_ok hn] at gy
      obtain ⟨e, hu⟩ := (TT.find_ok hP hti).ptr rfl
      split at h
      · next b hb =>
        have hp := nilP_ok hb (S.v x)
        split at h
        · cases h; exact S_eqNil hp gy hu hd
        · cases h; exact S_neNil hp gy hu hd
        · cases h
      · cases h
    · next hti =>
      have hT := TT.find_ok hP hti
      split at h
      · next xs ys hx hy =>
        have gx := S.v x; rw [hx] at gx
        have gy := S.v y; rw [hy] at gy
        split at h
        · next b hb =>
          obtain ⟨us, vs', k1, k2, k3, k4, k5⟩ := eqE_ok hb
          obtain ⟨f1, f2⟩ := hT.ks _ rfl
          subst k5
          split at h
          · cases h; exact S_eqAgg gx gy k1 k2 (by decide) f1 hT.agg f2 k3 k4 hd
          · cases h; exact S_neAgg gx gy k1 k2 (by decide) f1 hT.agg f2 k3 k4 hd
          · cases h
        · cases h
      · cases h
    · obtain ⟨C, z, k1, k2⟩ := oneO' h
      refine one ?_ k2
      subst k2
      exact binF_ok k1 hC hd (S.v x) (S.v y)
  · exact convAnyF_ok hP S h hC hf hnd hd
  · refine allocF_ok hP h (fun p hp => ?_) hd
    have h' := h
    unfold allocF at h'
    split at h'
    · cases h'; rw [List.mem_singleton.1 hp]; exact fr _ (List.mem_singleton.2 rfl)
    · cases h'
  · refine boxF_ok S h hC (fun p hp => ?_) hd
    have h' := h
    unfold boxF at h'
    split at h'
    · cases h'; rw [List.mem_singleton.1 hp]; exact fr _ (List.mem_singleton.2 rfl)
    · cases hq : onesE (csE (evOf vs _)) with
      | false => rw [hq] at h'; cases h'
      | true => rw [hq] at h'; cases h'; rw [List.mem_singleton.1 hp]; exact fr _ (List.mem_singleton.2 rfl)
  · exact buildF_ok hP S h hd
  · refine buildSliceF_ok hP S h (fun p hp => ?_) hd
    have e := buildSliceF_hp h p hp
    rw [e]
    obtain ⟨q, eb⟩ := p
    simp only at e; subst e
    exact fr eb hp
  · refine makeF_ok hP h hC (fun p hp => ?_) hd (S.v _) (S.v _)
    have e := makeF_hp h p hp
    rw [e]
    obtain ⟨q, eb⟩ := p
    simp only at e; subst e
    exact fr eb hp
  · obtain ⟨C, z, k1, k2⟩ := oneO' h
    refine one ?_ k2
    subst k2
    exact loadF_ok hP S k1 hC hd (S.v _)
  · next x =>
    have hx := S.v x
    split at h
    · next r o hv => cases h; rw [hv] at hx; exact S_nilOwn hx hd
    · next c o hv => cases h; rw [hv] at hx; exact S_nilPp hx hd
    · next r s i o hv => cases h; rw [hv] at hx; exact S_nilOwn hx hd
    · next m s f i o hv => cases h; rw [hv] at hx; exact S_nilPp hx hd
    · cases h
  · split at h
    · next y hy => cases h; exact fldF_ok hP hy hd (S.v _)
    · cases h
  · obtain ⟨C, z, k1, k2⟩ := oneO' h
    refine one ?_ k2
    subst k2
    exact idxF_ok hP k1 hC hd (S.v _) (S.v _)
  · obtain ⟨C, z, k1, k2⟩ := oneO' h
    refine one ?_ k2
    subst k2
    exact atF_ok hP k1 hC hd (S.v _) (S.v _)
  · exact sliceF_ok hP S h hC hd
  · next x i =>
    have hx := S.v x
    split at h
    · next l hv =>
      split at h
      · next y hy =>
        cases h
        rw [hv] at hx
        rw [nthE_eq] at hy
        exact S_extract hd hx (by rw [avL_get, hy]; rfl)
      · cases h
    · cases h
  · next c =>
    split at h
    · next b hb =>
      obtain ⟨callee, args, argTypes⟩ := c
      simp only at hb; subst hb
      exact builtinF_ok hP S h hC hf hnd hnz hd
    · cases h
  · cases h
end
end Go.Proofs.Ytnopdnclefopbaa
