/- Part 3 of the proof: its texts one behind the other. -/
import Derived.Test.YtcebndkiagbddaaGreatDoorJ2
namespace Go.Proofs.YtcebndkiagbddaaGreatDoor
open Go.RowKit
set_option linter.unusedVariables false
set_option linter.unusedSimpArgs false

section
variable {P : Program} {E : Env} {kp : List Nat} {n : Nat} {ops : Array Oper} {d : Nat} {ty : TypeId} {ps : String} {af : Array Edge}
variable {tab : TT} {vs : List (Nat × EV)} {bs : List (Nat × EB)} {st : ES}

theorem asI64_gv {x : EV} {i : Int} (h : asI64 x = some i) : Gv x.av (.p (i64P i)) := by rw [asI64_eq h]; exact Gv.r
theorem under_of {T : TypeId} {ti : TI} (h : TIok P T ti) : ∃ dd, P.underlying T = some dd := by
  have := h.agg
  unfold aggOf at this
  cases hq : P.underlying T with
  | none => rw [hq] at this; cases this
  | some dd => exact ⟨dd, rfl⟩
theorem convAnyF_ok {T T' : TypeId} {x : Operand} {R : RS} (hP : tab.ok P) (S : Sub vs bs st) (h : convAnyF tab vs bs d T T' x = some R) (hC : ∀ c ∈ R.C, c) (hf : ∀ p ∈ R.hp, (ob_ bs p.1).alive = true ∨ st.free kp p.1 = true) (hnd : (ob_ bs (nmB d)).alive = false) (hd : Nat.blt d n = true) :
    Step P E kp n ops ⟨some d, .convert T T' x, ty, ps, af, none⟩ st.as (R.app st).as := by
  unfold convAnyF at h
  split at h
  · next k _ _ _ _ k' _ _ _ _ hti hti' =>
    have hT := TT.find_ok hP hti
    have hT' := TT.find_ok hP hti'
    split at h
    · next k2 =>
      split at h
      · next y hy =>
        cases h
        obtain ⟨dd, hdd⟩ := under_of hT
        exact convF_ok hy hdd (hT'.int _ rfl) hd (S.v x)
      · cases h
    · split at h
      · split at h
        · next l hl =>
          cases h
          have e := asS_eq hl
          exact S_convStr (by have := S.v x; rw [e] at this; exact this) (hT.str rfl) (hT'.str rfl) hd
        · cases h
      · next e sz by_ z =>
        cases hu : isU8 tab e sz by_ z with
        | false => rw [hu] at h; cases h
        | true =>
          rw [hu] at h
          simp only [cond_true] at h
          obtain ⟨u1, u2, u3, u4⟩ := isU8_ok hP hu
          obtain ⟨s1, _⟩ := hT.sl e sz by_ z rfl
          split at h
          · next l R' hR =>
            cases h
            obtain ⟨k1, k2, k3⟩ := frz_ok (E := E) (kp := kp) (n := n) S hR hC
            exact (S_bytesStr (st := (R'.app st).as) k2 s1 u1 (hT'.str rfl) hd).pre k1
          · next R' hR =>
            cases h
            obtain ⟨k1, k2, k3⟩ := frz_ok (E := E) (kp := kp) (n := n) S hR hC
            have g : Gv ((R'.app st).as.ev x) (.p (bytesP [])) := k2.trans (by
              show Gv (.p (.v (.slice none 0 0))) (.p (.sl [] 0))
              exact Gv.nilSl)
            exact (S_bytesStr (st := (R'.app st).as) g s1 u1 (hT'.str rfl) hd).pre k1
          · cases h
      · cases h
    · next e sz by_ z =>
      split at h
      · cases hu0 : isU8 tab e sz by_ z && Nat.beq e 5 with
        | false => rw [hu0] at h; cases h
        | true =>
          rw [hu0] at h
          simp only [cond_true] at h
          rw [Bool.and_eq_true] at hu0
          obtain ⟨hu, hu1⟩ := hu0
          obtain ⟨u1, u2, u3, u4⟩ := isU8_ok hP hu
          obtain ⟨s1, _⟩ := hT'.sl e sz by_ z rfl
          split at h
          · next l hl =>
            cases h
            have e1 := asS_eq hl
            have hfr : st.free kp (nmB d) = true := by
              rcases hf (nmB d, .rb l e 0) (by simp) with k | k
              · rw [hnd] at k; cases k
              · exact k
            have hlen : l.length ≤ 1000000000 := hC _ (List.mem_singleton.2 rfl)
            exact S_strBytes (nmB d) (by have := S.v x; rw [e1] at this; exact this) (hT.str rfl) s1 u1 (by omega) (nat_eq hu1) (by rw [as_free]; exact hfr) hd
          · cases h
      · obtain ⟨hc, h2⟩ := bif_some h
        clear h
        simp only [Bool.and_eq_true] at hc
        have eT := nat_eq hc.1; subst eT
        obtain ⟨u1, u2, u3, u4⟩ := isU8_ok hP hc.2
        obtain ⟨s1, _⟩ := hT'.sl e sz by_ z rfl
        split at h2
        · next r m hx =>
          split at h2
          · next l t pub hb =>
            obtain ⟨ht, h2⟩ := bif_some h2
            cases h2
            exact S_markStr (by have := S.v x; rw [hx] at this; exact this) (S.ob hb (by simp)) s1 u1 (hC _ (List.mem_singleton.2 rfl)) (nat_eq ht) hd
          · cases h2
        · cases h2
      · cases h
    · cases h
  · cases h
theorem optE_map (o : Option Operand) : optE vs o = o.map (evOf vs) := by cases o <;> rfl
theorem sliceF_ok {T : TypeId} {x : Operand} {lo hi : Option Operand} {R : RS} (hP : tab.ok P) (S : Sub vs bs st) (h : sliceF tab vs bs d T x lo hi = some R) (hC : ∀ c ∈ R.C, c) (hd : Nat.blt d n = true) :
    Step P E kp n ops ⟨some d, .slice T x lo hi none, ty, ps, af, none⟩ st.as (R.app st).as := by
  unfold sliceF at h
  split at h
  · next y R' hR =>
    split at h
    · next C z hz =>
      cases h
      have hC1 : ∀ c ∈ R'.C, c := fun c hc => hC c (List.mem_append_left _ hc)
      have hC2 : ∀ c ∈ C, c := fun c hc => hC c (List.mem_append_right _ hc)
      obtain ⟨k1, k2, k3⟩ := frz_ok (E := E) (kp := kp) (n := n) S hR hC1
      rw [optE_map, optE_map] at hz
      refine (cutF_ok (st := (R'.app st).as) hP hz hC2 hd k2 (fun q _ hi => ?_)).pre k1
      rw [k3 q (fun r m e => by rw [e] at hi; cases hi)]
      exact S.v q
    · cases h
  · cases h
theorem lenF_ok {T : TypeId} {x : Operand} {u : EV} {i : Int} {st : AS} {ti : TI} (hT : TIok P T ti) (h : lenF u = some i) (hk : (∃ e sz b z, ti.k = .sl e sz b z) ∨ ti.k = .str) (hok : (∃ e sz b z, ti.k = .sl e sz b z) → asS u = none) (hok2 : ti.k = .str → (asS u).isSome = true) (hd : Nat.blt d n = true) (hx : Gv (st.ev x) u.av) :
    Step P E kp n ops ⟨some d, .call { callee := .builtin .len, args := #[x], argTypes := #[T] }, ty, ps, af, none⟩ st (st.put d (EV.i i).av) := by
  rcases hk with ⟨e, sz, b, z, hk⟩ | hk
  · obtain ⟨_, hs, _⟩ := hT.sl e sz b z hk
    have hn := hok ⟨e, sz, b, z, hk⟩
    unfold lenF at h
    split at h
    · next l => cases h; exact S_lenSl (m := l.length) hd hx hs
    · next m s f => cases h; exact S_lenSl (m := m) (cells := lzC m s f) hd (by have h3 := hx; unfold EV.av EV.pv at h3; exact h3) hs
    · next m => cases h; exact S_lenSl hd hx hs
    · next r m => cases h; exact S_lenOsl hd hx hs
    · next a m c => cases h; exact S_lenNil hd hx hs
    · simp [asS] at hn
    · cases h
  · have hs := hT.str hk
    have hn := hok2 hk
    cases ha : asS u with
    | none => rw [ha] at hn; cases hn
    | some l =>
      have e := asS_eq ha; subst e
      unfold lenF at h
      cases h
      exact S_lenStr hd hx hs
theorem arr1 {α : Type} {a : Array α} {x : α} (h : a.toList = [x]) : a = #[x] := by cases a; simp at h; rw [h]
theorem arr2 {α : Type} {a : Array α} {x y : α} (h : a.toList = [x, y]) : a = #[x, y] := by cases a; simp at h; rw [h]
theorem builtinF_ok {b : Builtin} {args : Array Operand} {argTypes : Array TypeId} {R : RS} (hP : tab.ok P) (S : Sub vs bs st) (h : builtinF tab vs bs d b args.toList ty argTypes.toList = some R) (hC : ∀ c ∈ R.C, c)
    (hf : ∀ p ∈ R.hp, (ob_ bs p.1).alive = true ∨ st.free kp p.1 = true) (hnd : (ob_ bs (nmB d)).alive = false) (hnz : (ob_ bs (nmZ d)).alive = false) (hd : Nat.blt d n = true) :
    Step P E kp n ops ⟨some d, .call { callee := .builtin b, args := args, argTypes := argTypes }, ty, ps, af, none⟩ st.as (R.app st).as := by
  unfold builtinF at h
  split at h
  · next x T h1 h2 =>
    have e1 := arr1 h1; have e2 := arr1 h2; subst e1 e2
    split at h
    · next e sz by_ z _ _ _ _ hti =>
      cases hs : asS (evOf vs x) with
      | some l => rw [hs] at h; cases h
      | none =>
        rw [hs] at h
        simp only at h
        cases hl : lenF (evOf vs x) with
        | none => rw [hl] at h; cases h
        | some i => rw [hl] at h; cases h; exact lenF_ok (TT.find_ok hP hti) hl (.inl ⟨_, _, _, _, rfl⟩) (fun _ => hs) (fun k => by cases k) hd (S.v x)
    · next hti =>
      cases hs : asS (evOf vs x) with
      | none => rw [hs] at h; cases h
      | some l =>
        rw [hs] at h; cases h
        refine lenF_ok (u := .s l) (TT.find_ok hP hti) rfl (.inr rfl) (fun ⟨_, _, _, _, k⟩ => by cases k) (fun _ => rfl) hd (by have := S.v x; rw [asS_eq hs] at this; exact this)
    · next K V _ _ _ _ hti =>
      split at h
      · next r hx =>
        split at h
        · next es hb =>
          cases h
          have gx := S.v x; rw [hx] at gx
          exact S_lenMap ((TT.find_ok hP hti).mp K V rfl).u gx (S.ob hb (by simp)) hd
        · cases h
      · cases h
    · cases h
  · next x y T T' h1 h2 =>
    have e1 := arr2 h1; have e2 := arr2 h2; subst e1 e2
    split at h
    · next e s z zz _ _ _ _ hti =>
      cases hs : Nat.beq s 1 with
      | false => rw [hs] at h; cases h
      | true =>
        rw [hs] at h
        simp only [cond_true] at h
        have es := nat_eq hs; subst es
        split at h
        · next r m hx =>
          split at h
          · next l t pub ho =>
            cases ht : Nat.beq t e with
            | false => rw [ht] at h; cases h
            | true =>
              rw [ht] at h
              simp only [cond_true] at h
              have et := nat_eq ht; subst et
              have gx := S.v x; rw [hx] at gx
              have gy := S.v y
              have hob := S.ob ho (by simp)
              have hT := ((TT.find_ok hP hti).sl _ _ _ _ rfl).2.1
              split at h
              · next q hq =>
                cases h
                have c1 : m = l.length := hC (m = l.length) (by simp)
                have c2 : 0 < m := hC (0 < m) (by simp)
                have c3 : pub = 0 := hC (pub = 0) (by simp)
                have em : putL (l.map b8P) 0 ((q.take m).map b8P) = (q.take m ++ l.drop (q.take m).length).map b8P := by
                  rw [putL_copy _ _ (by simp; omega), List.map_append, List.map_drop, List.length_map]
                have eb : (EB.rb (q.take m ++ l.drop (q.take m).length) t pub).ob = .row (putL (l.map b8P) 0 ((q.take m).map b8P)) t 1 pub := by rw [em]; rfl
                split at hq
                · next m' hm' =>
                  cases hq
                  have := asS_eq hm'
                  rw [this] at gy
                  refine (S_copyStr (T2 := T') gx hob gy hT (by rw [List.length_map]; omega) c2 c3 hd).cast ?_
                  show AS.mk _ _ = AS.mk ((d, EV.av (.i _)) :: st.as.slots) ((r, EB.ob _) :: st.as.heap)
                  rw [eb]; rfl
                · split at hq
                  · next m' hm' =>
                    cases hq
                    rw [hm'] at gy
                    refine (S_copyBs (T2 := T') gx hob gy hT (by rw [List.length_map]; omega) c2 c3 hd).cast ?_
                    show AS.mk _ _ = AS.mk ((d, EV.av (.i _)) :: st.as.slots) ((r, EB.ob _) :: st.as.heap)
                    rw [eb]; rfl
                  · cases hq
              · cases h
          · cases h
        · cases h
    · cases h
  · next x y T T' h1 h2 =>
    have e1 := arr2 h1; have e2 := arr2 h2; subst e1 e2
    cases hc : Nat.beq T T' with
    | false => rw [hc] at h; cases h
    | true =>
      rw [hc] at h
      have e := nat_eq hc; subst e
      exact appendF_ok hP S h hC hf hnd hnz hd (S.v x) (S.v y)
  · next x y T1 T2 h1 h2 =>
    have e1 := arr2 h1; have e2 := arr2 h2; subst e1 e2
    split at h
    · next hti =>
      split at h
      · next i j hi hj => cases h; exact S_min ((S.v x).trans (asI64_gv hi)) ((S.v y).trans (asI64_gv hj)) hd ((TT.find_ok hP hti).int _ rfl)
      · cases h
    · split at h
      · next i j hi hj => cases h; exact S_minS (by have := S.v x; rw [asS_eq hi] at this; exact this) (by have := S.v y; rw [asS_eq hj] at this; exact this) hd
      · cases h
    · cases h
  · next x y T1 T2 h1 h2 =>
    have e1 := arr2 h1; have e2 := arr2 h2; subst e1 e2
    split at h
    · next hti =>
      split at h
      · next i j hi hj => cases h; exact S_max ((S.v x).trans (asI64_gv hi)) ((S.v y).trans (asI64_gv hj)) hd ((TT.find_ok hP hti).int _ rfl)
      · cases h
    · next hti =>
      split at h
      · next i j hi hj => cases h; exact S_max8 ((S.v x).trans (asU8_gv hi)) ((S.v y).trans (asU8_gv hj)) hd ((TT.find_ok hP hti).int _ rfl)
      · cases h
    · split at h
      · next i j hi hj => cases h; exact S_maxS (by have := S.v x; rw [asS_eq hi] at this; exact this) (by have := S.v y; rw [asS_eq hj] at this; exact this) hd
      · cases h
    · cases h
  · cases h
theorem buildSliceF_hp {T : TypeId} {len : Nat} {parts : List (Nat × Operand)} {R : RS} (h : buildSliceF tab vs d T len parts = some R) : ∀ p ∈ R.hp, p.1 = nmB d := by
  unfold buildSliceF at h
  split at h
  · next e sz by_ z _ _ _ _ hti =>
    split at h
    · next l hl =>
      cases hc : Nat.beq parts.length len && Nat.ble (len * sz) 1000000 with
      | false => rw [hc] at h; cases h
      | true =>
        rw [hc] at h
        simp only [cond_true] at h
        split at h
        · cases hu : isU8 tab e sz by_ z with
          | false => rw [hu] at h; cases h; intro p hp; rw [List.mem_singleton.1 hp]
          | true => rw [hu] at h; cases h; intro p hp; rw [List.mem_singleton.1 hp]
        · cases h; intro p hp; rw [List.mem_singleton.1 hp]
    · split at h
      · split at h
        · obtain ⟨_, h⟩ := bif_some h
          cases h; intro p hp; rw [List.mem_singleton.1 hp]
        · cases h
      · cases h
  · cases h
theorem makeF_hp {T : TypeId} {x y : EV} {R : RS} (h : makeF tab d T x y = some R) : ∀ p ∈ R.hp, p.1 = nmB d := by
  unfold makeF at h
  split at h
  · split at h
    · next e sz by_ z _ _ _ _ hti =>
      cases hu : isU8 tab e sz by_ z with
      | true => rw [hu] at h; cases h; intro p hp; rw [List.mem_singleton.1 hp]
      | false =>
        rw [hu] at h
        simp only [cond_false] at h
        cases hb : Nat.ble by_ 10000 with
        | false => rw [hb] at h; cases h
        | true => rw [hb] at h; cases h; intro p hp; rw [List.mem_singleton.1 hp]
    · cases h
  · cases h
/-- **What is computed of an operation is so.** -/
theorem opF_ok {wr : Bool} {o : Op} {R : RS} (hP : tab.ok P) (S : Sub vs bs st) (h : opF tab vs bs d wr ty o = some R) (hC : ∀ c ∈ R.C, c)
    (hf : ∀ p ∈ R.hp, (ob_ bs p.1).alive = true ∨ st.free kp p.1 = true) (hnd : (ob_ bs (nmB d)).alive = false) (hnz : (ob_ bs (nmZ d)).alive = false) (hd : Nat.blt d n = true) :
    Step P E kp n ops ⟨some d, o, ty, ps, af, none⟩ st.as (R.app st).as := by
  have fr : ∀ eb : EB, (nmB d, eb) ∈ R.hp → st.free kp (nmB d) = true := fun eb hm => by
    rcases hf _ hm with k | k
    · rw [hnd] at k; cases k
    · exact k
  have one : ∀ {C : List Prop} {z : EV}, Step P E kp n ops ⟨some d, o, ty, ps, af, none⟩ st.as (st.as.put d z.av) → R = ⟨C, [(d, z)], []⟩ → Step P E kp n ops ⟨some d, o, ty, ps, af, none⟩ st.as (R.app st).as := fun k e => by subst e; exact k
  have oneO' : ∀ {q : Option (List Prop × EV)}, oneO d q = some R → ∃ C z, q = some (C, z) ∧ R = ⟨C, [(d, z)], []⟩ := fun {q} k => by
    unfold oneO at k
    split at k
    · next C z => cases k; exact ⟨C, z, rfl, rfl⟩
    · cases k
  unfold opF at h
  split at h
  · rw [EV.fc_eq] at h; cases h; exact S_mv (.inl rfl) hd (S.v _)
  · rw [EV.fc_eq] at h; cases h; exact S_mv (.inr rfl) hd (S.v _)
  · next x =>
    split at h
    · next g hg => cases h; exact S_not (by have := S.v x; rw [asB_eq hg] at this; exact this) hd
    · cases h
  · next x =>
    split at h
    · next i hi =>
      obtain ⟨C, z, k1, k2⟩ := oneO' h
      have hx : Gv (st.as.ev x) (.p (i64P i)) := (S.v x).trans (asI64_gv hi)
      refine one ?_ k2
      subst k2
      unfold arF at k1
      cases wr with
      | true => cases k1; exact S_neg hx rfl hd
      | false =>
        cases k1
        have := hC (-9223372036854775808 ≤ -i ∧ -i ≤ 9223372036854775807) (by simp)
        exact S_neg hx (w64 this.1 this.2) hd
    · cases h
  · next x =>
    split at h
    · next y hy => cases h; exact notF_ok hy hd (S.v x)
    · cases h
  · next op T x y _ =>
    split at h
    · next hti =>
      split at h
      · next i j hi hj =>
        split at h
        · next z hz =>
          cases h
          exact boolF_ok hz ((TT.find_ok hP hti).bool rfl) hd (by have := S.v x; rw [asB_eq hi] at this; exact this) (by have := S.v y; rw [asB_eq hj] at this; exact this)
        · cases h
      · cases h
    · next hti =>
      obtain ⟨hn, h⟩ := bif_some h
      have gy := S.v y; rw [isNilE_ok hn] at gy
      obtain ⟨e, hu⟩ := (TT.find_ok hP hti).ptr rfl
      split at h
      · next b hb =>
        have hp := nilP_ok hb (S.v x)
        split at h
        · cases h; exact S_eqNil hp gy hu hd
        · cases h; exact S_neNil hp gy hu hd
        · cases h
      · cases h
    · next hti =>
      have hT := TT.find_ok hP hti
      split at h
      · next xs ys hx hy =>
        have gx := S.v x; rw [hx] at gx
        have gy := S.v y; rw [hy] at gy
        split at h
        · next b hb =>
          obtain ⟨us, vs', k1, k2, k3, k4, k5⟩ := eqE_ok hb
          obtain ⟨f1, f2⟩ := hT.ks _ rfl
          subst k5
          split at h
          · cases h; exact S_eqAgg gx gy k1 k2 (by decide) f1 hT.agg f2 k3 k4 hd
          · cases h; exact S_neAgg gx gy k1 k2 (by decide) f1 hT.agg f2 k3 k4 hd
          · cases h
        · cases h
      · cases h
    · obtain ⟨C, z, k1, k2⟩ := oneO' h
      refine one ?_ k2
      subst k2
      exact binF_ok k1 hC hd (S.v x) (S.v y)
  · exact convAnyF_ok hP S h hC hf hnd hd
  · refine allocF_ok hP h (fun p hp => ?_) hd
    have h' := h
    unfold allocF at h'
    split at h'
    · cases h'; rw [List.mem_singleton.1 hp]; exact fr _ (List.mem_singleton.2 rfl)
    · cases h'
  · refine boxF_ok S h hC (fun p hp => ?_) hd
    have h' := h
    unfold boxF at h'
    split at h'
    · cases h'; rw [List.mem_singleton.1 hp]; exact fr _ (List.mem_singleton.2 rfl)
    · cases hq : onesE (csE (evOf vs _)) with
      | false => rw [hq] at h'; cases h'
      | true => rw [hq] at h'; cases h'; rw [List.mem_singleton.1 hp]; exact fr _ (List.mem_singleton.2 rfl)
  · exact buildF_ok hP S h hd
  · refine buildSliceF_ok hP S h (fun p hp => ?_) hd
    have e := buildSliceF_hp h p hp
    rw [e]
    obtain ⟨q, eb⟩ := p
    simp only at e; subst e
    exact fr eb hp
  · refine makeF_ok hP h hC (fun p hp => ?_) hd (S.v _) (S.v _)
    have e := makeF_hp h p hp
    rw [e]
    obtain ⟨q, eb⟩ := p
    simp only at e; subst e
    exact fr eb hp
  · obtain ⟨C, z, k1, k2⟩ := oneO' h
    refine one ?_ k2
    subst k2
    exact loadF_ok hP S k1 hC hd (S.v _)
  · next x =>
    have hx := S.v x
    split at h
    · next r o hv => cases h; rw [hv] at hx; exact S_nilOwn hx hd
    · next c o hv => cases h; rw [hv] at hx; exact S_nilPp hx hd
    · next r s i o hv => cases h; rw [hv] at hx; exact S_nilOwn hx hd
    · next m s f i o hv => cases h; rw [hv] at hx; exact S_nilPp hx hd
    · cases h
  · split at h
    · next y hy => cases h; exact fldF_ok hP hy hd (S.v _)
    · cases h
  · obtain ⟨C, z, k1, k2⟩ := oneO' h
    refine one ?_ k2
    subst k2
    exact idxF_ok hP k1 hC hd (S.v _) (S.v _)
  · obtain ⟨C, z, k1, k2⟩ := oneO' h
    refine one ?_ k2
    subst k2
    exact atF_ok hP k1 hC hd (S.v _) (S.v _)
  · exact sliceF_ok hP S h hC hd
  · next x i =>
    have hx := S.v x
    split at h
    · next l hv =>
      split at h
      · next y hy =>
        cases h
        rw [hv] at hx
        rw [nthE_eq] at hy
        exact S_extract hd hx (by rw [avL_get, hy]; rfl)
      · cases h
    · cases h
  · next T x f =>
    have hx := S.v x
    split at h
    · next pl _ _ _ _ hti =>
      have hT := TT.find_ok hP hti
      split at h
      · next o s hpl =>
        split at h
        · next l hv =>
          split at h
          · next y hy =>
            cases h
            rw [hv] at hx
            rw [nthE_eq] at hy
            refine S_field1 (fs := #[]) (pl := pl.map fun p => (p.1, p.2.1)) (s := s) hd hx (hT.st pl rfl) (by rw [List.getElem?_map, hpl]; rfl) (fun fs fd hu hfd => ?_) (by rw [avL_get, hy]; rfl)
            have k := hT.fl pl rfl
            unfold stNA at k
            rw [hu] at k
            exact naAll_get k hpl (by simpa using hfd)
          · cases h
        · cases h
      · cases h
    · cases h
  · next c =>
    split at h
    · next b hb =>
      obtain ⟨callee, args, argTypes⟩ := c
      simp only at hb; subst hb
      exact builtinF_ok hP S h hC hf hnd hnz hd
    · cases h
  · cases h
end
end Go.Proofs.YtcebndkiagbddaaGreatDoor

/- Names turned, values fitted, states weakened. It names no function of the program. -/
namespace Go.Proofs.YtcebndkiagbddaaGreatDoor
open Go.RowKit
set_option linter.unusedVariables false
set_option linter.unusedSimpArgs false

mutual
def EV.sg (σ : List (Nat × Nat)) : EV → EV
  | .agg l => .agg (sgE σ l)
  | .tup l => .tup (sgE σ l)
  | .own q off => .own (YtcebndkiagbddaaGreatDoor.sg σ q) off
  | .po q sz i off => .po (YtcebndkiagbddaaGreatDoor.sg σ q) sz i off
  | .osl q n => .osl (YtcebndkiagbddaaGreatDoor.sg σ q) n
  | .fn f c => .fn f c
  | .rp t => .rp t
  | .mref q => .mref (YtcebndkiagbddaaGreatDoor.sg σ q)
  | .oss q k n s => .oss (YtcebndkiagbddaaGreatDoor.sg σ q) k n s
  | .cnd g x => .cnd g (EV.sg σ x)
  | .v x => .v x
  | .u8 c => .u8 c
  | .u32 c => .u32 c
  | .u64 c => .u64 c
  | .az n f => .az n f
  | .bs l => .bs l
  | .lz n sz f => .lz n sz f
  | .pp c o => .pp c o
  | .pb l i => .pb l i
  | .pz n sz f i o => .pz n sz f i o
  | .raw x => .raw x
  | .sl c n => .sl c n
  | .any => .any
def sgE (σ : List (Nat × Nat)) : List EV → List EV
  | [] => []
  | x :: xs => EV.sg σ x :: sgE σ xs
end
mutual
theorem sg_av (σ : List (Nat × Nat)) : ∀ x : EV, (x.sg σ).av = x.av.sg σ
  | .agg l => by unfold EV.sg EV.av AV.sg; rw [sg_avL σ l]
  | .tup l => by unfold EV.sg EV.av AV.sg; rw [sg_avL σ l]
  | .own q off => by unfold EV.sg EV.av AV.sg; rfl
  | .po q sz i off => by unfold EV.sg EV.av AV.sg; rfl
  | .osl q n => by unfold EV.sg EV.av AV.sg; rfl
  | .fn f c => by unfold EV.sg EV.av AV.sg; rfl
  | .rp t => by unfold EV.sg EV.av AV.sg; rfl
  | .mref q => by unfold EV.sg EV.av AV.sg; rfl
  | .oss q _ _ _ => by unfold EV.sg EV.av AV.sg; rfl
  | .cnd g x => by unfold EV.sg EV.av AV.sg; rw [sg_av σ x]
  | .v x => by unfold EV.sg EV.av AV.sg; rfl
  | .u8 c => by unfold EV.sg EV.av AV.sg; rfl
  | .u32 c => by unfold EV.sg EV.av AV.sg; rfl
  | .u64 c => by unfold EV.sg EV.av AV.sg; rfl
  | .az n f => by unfold EV.sg EV.av AV.sg; rfl
  | .bs l => by unfold EV.sg EV.av AV.sg; rfl
  | .lz n sz f => by unfold EV.sg EV.av AV.sg; rfl
  | .pp c o => by unfold EV.sg EV.av AV.sg; rfl
  | .pb l i => by unfold EV.sg EV.av AV.sg; rfl
  | .pz n sz f i o => by unfold EV.sg EV.av AV.sg; rfl
  | .raw x => by unfold EV.sg EV.av AV.sg; rfl
  | .sl c n => by unfold EV.sg EV.av AV.sg; rfl
  | .any => by unfold EV.sg EV.av AV.sg; rfl
theorem sg_avL (σ : List (Nat × Nat)) : ∀ l : List EV, avL (sgE σ l) = sgL σ (avL l)
  | [] => rfl
  | x :: xs => by unfold sgE avL sgL; rw [sg_av σ x, sg_avL σ xs]
end
theorem sgL_mapP (σ : List (Nat × Nat)) (l : List PV) : sgL σ (l.map AV.p) = l.map AV.p := by
  induction l with
  | nil => rfl
  | cons x l ih => simp only [List.map_cons, sgL, AV.sg, ih]
def EB.sg (σ : List (Nat × Nat)) : EB → EB
  | .box cells t => .box (sgE σ cells) t
  | .it m a b c => .it (YtcebndkiagbddaaGreatDoor.sg σ m) a b c
  | .ra n sz f t ns => .ra n sz f t (ns.map (YtcebndkiagbddaaGreatDoor.sg σ))
  | x => x
theorem sg_ob (σ : List (Nat × Nat)) (x : EB) : (x.sg σ).ob = x.ob.sg σ := by
  cases x with
  | bz n f t => show OB.box _ t = OB.box (sgL σ _) t; rw [sgL_mapP]
  | _ => simp [EB.sg, EB.ob, OB.sg, sg_avL]
def sgEH (σ : List (Nat × Nat)) : List (Nat × EB) → List (Nat × EB)
  | [] => []
  | (q, x) :: h => (sg σ q, x.sg σ) :: sgEH σ h
theorem sgEH_obs (σ : List (Nat × Nat)) : ∀ h : List (Nat × EB), obs (sgEH σ h) = sgH σ (obs h)
  | [] => rfl
  | (q, x) :: h => by simp only [sgEH, obs, sgH, sg_ob, sgEH_obs σ h]
def deadE (σ : List (Nat × Nat)) : List (Nat × EB) → List (Nat × EB)
  | [] => []
  | (q, _) :: h => (sg σ q, .dead) :: deadE σ h
theorem deadE_obs (σ : List (Nat × Nat)) : ∀ h : List (Nat × EB), obs (deadE σ h) = deadH σ (obs h)
  | [] => rfl
  | (q, x) :: h => by simp only [deadE, obs, deadH, deadE_obs σ h]; rfl

/-! ### Fitting -/
def kNum : IntKind → Nat
  | .i8 => 0 | .i16 => 1 | .i32 => 2 | .i64 => 3 | .u8 => 4 | .u16 => 5 | .u32 => 6 | .u64 => 7
theorem kNum_eq {a b : IntKind} (h : Nat.beq (kNum a) (kNum b) = true) : a = b := by
  have := nat_eq h
  cases a <;> cases b <;> first | rfl | cases this
/-- A pair of names more. -/
def addP (τ : List (Nat × Nat)) (q r : Nat) : Option (List (Nat × Nat)) :=
  bif domN q τ then (bif Nat.beq (sg τ q) r then some τ else none) else (match sgi r τ with | none => some ((q, r) :: τ) | some _ => none)
def fitV (a b : Value) : Option (List Prop) :=
  match b with
  | .int k' j => match a with
    | .int k i => bif Nat.beq (kNum k) (kNum k') then some [i = j] else none
    | _ => none
  | .bool q => match a with
    | .bool g => some [g = q]
    | _ => none
  | .string ⟨⟨m⟩⟩ => match a with
    | .string ⟨⟨l⟩⟩ => some [l = m]
    | _ => none
  | b => some [a = b]
theorem fitV_ok {a b : Value} {C : List Prop} (h : fitV a b = some C) (hC : ∀ c ∈ C, c) : a = b := by
  unfold fitV at h
  split at h
  · next k' j =>
    split at h
    · next k i =>
      cases hk : Nat.beq (kNum k) (kNum k') with
      | false => rw [hk] at h; cases h
      | true => rw [hk] at h; cases h; rw [kNum_eq hk, hC (i = j) (by simp)]
    · cases h
  · next q =>
    split at h
    · next g => cases h; rw [hC (g = q) (by simp)]
    · cases h
  · next m =>
    split at h
    · next l => cases h; rw [hC (l = m) (by simp)]
    · cases h
  · cases h; exact hC (a = b) (by simp)
/-- One cell as another one. -/
def fitC (x y : EV) : List Prop :=
  match y with
  | .u8 c => match asU8 x with
    | some a => [a = c]
    | none => [False]
  | .u32 c => match asU32 x with
    | some a => [a = c]
    | none => [False]
  | .u64 c => match asU64 x with
    | some a => [a = c]
    | none => [False]
  | .v b => match x with
    | .v a => match fitV a b with
      | some C => C
      | none => [False]
    | _ => [False]
  | y => [x.pv = y.pv]
theorem pv_of_av {x : EV} {u : Value} (h : x.av = .p (.v u)) : x.pv = .v u := by
  cases x <;> simp only [EV.av, EV.pv, AV.p.injEq, reduceCtorEq] at h ⊢ <;> exact h
theorem fitC_ok {x y : EV} (h : ∀ c ∈ fitC x y, c) : x.pv = y.pv := by
  unfold fitC at h
  split at h
  · next c =>
    split at h
    · next a ha => have e := h (a = c) (by simp); subst e; rw [pv_of_av (asU8_v ha)]; rfl
    · exact (h False (by simp)).elim
  · next c =>
    split at h
    · next a ha => have e := h (a = c) (by simp); subst e; rw [pv_of_av (asU32_v ha)]; rfl
    · exact (h False (by simp)).elim
  · next c =>
    split at h
    · next a ha => have e := h (a = c) (by simp); subst e; rw [pv_of_av (asU64_v ha)]; rfl
    · exact (h False (by simp)).elim
  · split at h
    · split at h
      · next hv => rw [fitV_ok hv h]
      · exact (h False (by simp)).elim
    · exact (h False (by simp)).elim
  · exact h _ (by simp)
/-- A list of values, one by one. -/
def eqAz (g : Nat → EV) : Nat → List EV → List Prop
  | _, [] => []
  | i, x :: l => fitC x (g i) ++ eqAz g (i + 1) l
theorem eqAz_pv' {g : Nat → EV} : ∀ {l : List EV} {i : Nat}, (∀ c ∈ eqAz g i l, c) → pvL l = (List.range l.length).map fun j => (g (i + j)).pv
  | [], i, _ => rfl
  | x :: l, i, h => by
    have h1 := fitC_ok (x := x) (y := g i) (fun c hc => h c (by simp [eqAz, hc]))
    have h2 := eqAz_pv' (g := g) (l := l) (i := i + 1) (fun c hc => h c (by simp [eqAz, hc]))
    rw [List.length_cons, List.range_succ_eq_map, List.map_cons, List.map_map]
    simp only [pvL]
    rw [h1, h2]
    congr 1
    apply List.map_congr_left
    intro j _
    show (g (i + 1 + j)).pv = (g (i + (j + 1))).pv
    rw [Nat.add_assoc, Nat.add_comm 1]
theorem eqAz_pv {l : List EV} {g : Nat → EV} (h : ∀ c ∈ eqAz g 0 l, c) : pvL l = azC l.length g := by
  rw [eqAz_pv' h]
  apply List.map_congr_left
  intro j _
  rw [Nat.zero_add]
mutual
/-- Is x also a y? What is asked for, and the names that are matched. -/
def fit (τ : List (Nat × Nat)) (x : EV) : EV → Option (List Prop × List (Nat × Nat))
  | .any => some ([], τ)
  | .v b => match x with
    | .v a => match fitV a b with
      | some C => some (C, τ)
      | none => none
    | _ => none
  | .u8 c => match asU8 x with
    | some a => some ([a = c], τ)
    | none => none
  | .u32 c => match asU32 x with
    | some a => some ([a = c], τ)
    | none => none
  | .u64 c => match asU64 x with
    | some a => some ([a = c], τ)
    | none => none
  | .az n' g => match x with
    | .az n f => some ([n = n', ∀ i, i < n → f i = g i], τ)
    | .agg l => bif shL l then some ((l.length = n') :: eqAz g 0 l, τ) else none
    | _ => none
  | .bs m => match x with
    | .bs l => some ([l = m], τ)
    | .v (.slice none 0 0) => some ([m = []], τ)
    | .sl cells n => match u8sE cells with
      | some l => some ([l = m, n = l.length], τ)
      | none => none
    | _ => none
  | .lz n' sz' g => match x with
    | .lz n sz f => bif Nat.beq sz sz' then some ([n = n', ∀ i, i < n → ∀ j, j < sz → f i j = g i j], τ) else none
    | .v (.slice none 0 0) => some ([n' = 0], τ)
    | .sl cells n => some ([n = n', cells.length = n * sz', ∀ i, i < n → ∀ j, j < sz' → cells.getD (i * sz' + j) .any = g i j], τ)
    | _ => none
  | .sl c' n' => match x with
    | .sl c n => some ([c = c', n = n'], τ)
    | .v (.slice none 0 0) => some ([c' = [], n' = 0], τ)
    | _ => none
  | .pp c' o' => match x with
    | .pp c o => some ([c = c', o = o'], τ)
    | .rp t => some ([t = some (pvL c'), o' = 0], τ)
    | _ => none
  | .fn f' c' => match x with
    | .fn f c => bif Nat.beq f f' then some ([c = c'], τ) else none
    | _ => none
  | .rp t' => match x with
    | .rp t => some ([t = t'], τ)
    | x => bif x.sh then some ([x.pv = rpP t'], τ) else none
  | .mref q => match x with
    | .mref r => addP τ q r |>.map fun τ' => ([], τ')
    | _ => none
  | .own q o' => match x with
    | .own r o => match addP τ q r with
      | some τ' => some ([o = o'], τ')
      | none => none
    | _ => none
  | .osl q n' => match x with
    | .osl r n => match addP τ q r with
      | some τ' => some ([n = n'], τ')
      | none => none
    | _ => none
  | .agg m => match x with
    | .agg l => fitL τ l m
    | _ => none
  | .tup m => match x with
    | .tup l => fitL τ l m
    | _ => none
  | .po q s j o => match x with
    | .po r s' i o' => bif Nat.beq s s' && Nat.beq o o' then (match addP τ q r with
      | some τ' => some ([i = j], τ')
      | none => none) else none
    | _ => none
  | .oss _ _ _ _ => none
  | .cnd _ _ => none
  | .pb l i => some ([x = .pb l i], τ)
  | .pz n s f i o => some ([x = .pz n s f i o], τ)
  | .raw z => some ([x = .raw z], τ)
def fitL (τ : List (Nat × Nat)) (xs : List EV) : List EV → Option (List Prop × List (Nat × Nat))
  | [] => match xs with
    | [] => some ([], τ)
    | _ => none
  | y :: ys => match xs with
    | x :: xs => match fit τ x y with
      | some (C, τ') => match fitL τ' xs ys with
        | some (C', τ'') => some (C ++ C', τ'')
        | none => none
      | none => none
    | [] => none
end
/-- σ knows all of τ. -/
def Ext (σ τ : List (Nat × Nat)) : Prop := ∀ q, domN q τ = true → domN q σ = true ∧ sg σ q = sg τ q
theorem Ext.refl (σ : List (Nat × Nat)) : Ext σ σ := fun _ h => ⟨h, rfl⟩
theorem Ext.trans {a b c : List (Nat × Nat)} (h : Ext a b) (k : Ext b c) : Ext a c := fun q hq => ⟨(h q (k q hq).1).1, ((h q (k q hq).1).2).trans (k q hq).2⟩
theorem addP_ext {τ τ' : List (Nat × Nat)} {q r : Nat} (h : addP τ q r = some τ') : Ext τ' τ ∧ domN q τ' = true ∧ sg τ' q = r ∧ (sgOk τ = true → sgOk τ' = true) := by
  unfold addP at h
  cases hd : domN q τ with
  | true =>
    rw [hd] at h
    simp only [cond_true] at h
    cases hb : Nat.beq (sg τ q) r with
    | false => rw [hb] at h; cases h
    | true => rw [hb] at h; cases h; exact ⟨Ext.refl _, hd, nat_eq hb, id⟩
  | false =>
    rw [hd] at h
    simp only [cond_false] at h
    split at h
    · next hs =>
      cases h
      refine ⟨fun p hp => ?_, by simp [domN], by simp [sg, look], fun ho => by simp [sgOk, hd, hs, ho]⟩
      have hne : q ≠ p := fun e => by subst e; rw [hd] at hp; cases hp
      refine ⟨by simp [domN, hp], ?_⟩
      unfold sg; rw [look_cons, if_neg hne]
    · cases h
mutual
theorem fit_ok : ∀ (y : EV) {τ τ' : List (Nat × Nat)} {x : EV} {C : List Prop}, fit τ x y = some (C, τ') → (∀ c ∈ C, c) →
    Ext τ' τ ∧ (sgOk τ = true → sgOk τ' = true) ∧ ∀ σ, Ext σ τ' → Gv x.av (y.av.sg σ)
  | .any, τ, τ', x, C, h, hC => by
    unfold fit at h; cases h
    exact ⟨Ext.refl _, id, fun σ _ => by unfold EV.av AV.sg; exact Gv.any⟩
  | .v b, τ, τ', x, C, h, hC => by
    unfold fit at h
    split at h
    · split at h
      · next C' hv =>
        cases h
        have e := fitV_ok hv hC; subst e
        exact ⟨Ext.refl _, id, fun σ _ => by unfold EV.av AV.sg; exact Gv.r⟩
      · cases h
    · cases h
  | .u8 c, τ, τ', x, C, h, hC => by
    unfold fit at h
    split at h
    · next a ha =>
      cases h
      have e := hC (a = c) (by simp); subst e
      exact ⟨Ext.refl _, id, fun σ _ => by have := asU8_gv ha; unfold EV.av AV.sg; unfold EV.av at this; exact this⟩
    · cases h
  | .u32 c, τ, τ', x, C, h, hC => by
    unfold fit at h
    split at h
    · next a ha =>
      cases h
      have e := hC (a = c) (by simp); subst e
      exact ⟨Ext.refl _, id, fun σ _ => by have := asU32_gv ha; unfold EV.av AV.sg; unfold EV.av at this; exact this⟩
    · cases h
  | .u64 c, τ, τ', x, C, h, hC => by
    unfold fit at h
    split at h
    · next a ha =>
      cases h
      have e := hC (a = c) (by simp); subst e
      exact ⟨Ext.refl _, id, fun σ _ => by have := asU64_gv ha; unfold EV.av AV.sg; unfold EV.av at this; exact this⟩
    · cases h
  | .az n' g, τ, τ', x, C, h, hC => by
    unfold fit at h
    split at h
    · next n f =>
      cases h
      have e1 := hC (n = n') (by simp); subst e1
      have e2 := hC (∀ i, i < n → f i = g i) (by simp)
      refine ⟨Ext.refl _, id, fun σ _ => ?_⟩
      unfold EV.av AV.sg EV.pv
      have e3 : azC n f = azC n g := List.map_congr_left fun i hi => by rw [e2 i (List.mem_range.1 hi)]
      show Gv (.p (.agg (azC n f))) (.p (.agg (azC n g)))
      rw [e3]; exact Gv.r
    · next l =>
      cases hs : shL l with
      | false => rw [hs] at h; cases h
      | true =>
        rw [hs] at h; cases h
        have e1 := hC (l.length = n') (by simp); subst e1
        have e3 := eqAz_pv (g := g) (l := l) (fun c hc => hC c (by simp [hc]))
        refine ⟨Ext.refl _, id, fun σ _ => ?_⟩
        have k := Gv.sh (x := .agg l) hs
        have e4 : (EV.agg l).pv = .agg (azC l.length g) := by rw [← e3]; rfl
        rw [e4] at k
        have e5 : (EV.az l.length g).av.sg σ = .p (.agg (azC l.length g)) := by unfold EV.av AV.sg EV.pv; rfl
        rw [e5]; exact k
    · cases h
  | .bs m, τ, τ', x, C, h, hC => by
    unfold fit at h
    split at h
    · next l =>
      cases h
      have e := hC (l = m) (by simp); subst e
      exact ⟨Ext.refl _, id, fun σ _ => by unfold EV.av AV.sg; exact Gv.r⟩
    · cases h
      have e := hC (m = []) (by simp); subst e
      exact ⟨Ext.refl _, id, fun σ _ => by unfold EV.av AV.sg; exact Gv.nilSl⟩
    · next cells n =>
      split at h
      · next l hl =>
        cases h
        have e := hC (l = m) (by simp); subst e
        have e2 := hC (n = l.length) (by simp); subst e2
        obtain ⟨u1, u2⟩ := u8sE_ok hl
        refine ⟨Ext.refl _, id, fun σ _ => ?_⟩
        unfold EV.av AV.sg
        show Gv (.p (.sl (pvL cells) l.length)) (.p (bytesP l))
        rw [u1]; exact Gv.r
      · cases h
    · cases h
  | .lz n' sz' g, τ, τ', x, C, h, hC => by
    unfold fit at h
    split at h
    · next n sz f =>
      cases hb : Nat.beq sz sz' with
      | false => rw [hb] at h; cases h
      | true =>
        rw [hb] at h; cases h
        have e0 := nat_eq hb; subst e0
        have e1 := hC (n = n') (by simp); subst e1
        have e2 := hC (∀ i, i < n → ∀ j, j < sz → f i j = g i j) (by simp)
        refine ⟨Ext.refl _, id, fun σ _ => ?_⟩
        unfold EV.av AV.sg
        show Gv (.p (.sl (lzC n sz f) n)) (.p (.sl (lzC n sz g) n))
        rw [lzC_ext e2]; exact Gv.r
    · cases h
      have e := hC (n' = 0) (by simp); subst e
      exact ⟨Ext.refl _, id, fun σ _ => by unfold EV.av AV.sg EV.pv; exact Gv.nilSl⟩
    · next cells n =>
      cases h
      have e1 := hC (n = n') (by simp); subst e1
      have e2 := hC (cells.length = n * sz') (by simp)
      have e3 := hC (∀ i, i < n → ∀ j, j < sz' → cells.getD (i * sz' + j) .any = g i j) (by simp)
      refine ⟨Ext.refl _, id, fun σ _ => ?_⟩
      unfold EV.av AV.sg
      show Gv (.p (.sl (pvL cells) n)) (.p (.sl (lzC n sz' g) n))
      rw [← lzC_of n sz' cells e2, lzC_ext e3]; exact Gv.r
    · cases h
  | .sl c' n', τ, τ', x, C, h, hC => by
    unfold fit at h
    split at h
    · next c n =>
      cases h
      have e1 := hC (c = c') (by simp); have e2 := hC (n = n') (by simp); subst e1 e2
      exact ⟨Ext.refl _, id, fun σ _ => by unfold EV.av AV.sg; exact Gv.r⟩
    · cases h
      have e1 := hC (c' = []) (by simp); have e2 := hC (n' = 0) (by simp); subst e1 e2
      exact ⟨Ext.refl _, id, fun σ _ => by unfold EV.av AV.sg; exact Gv.nilSl⟩
    · cases h
  | .pp c' o', τ, τ', x, C, h, hC => by
    unfold fit at h
    split at h
    · next c o =>
      cases h
      have e1 := hC (c = c') (by simp); have e2 := hC (o = o') (by simp); subst e1 e2
      exact ⟨Ext.refl _, id, fun σ _ => by unfold EV.av AV.sg; exact Gv.r⟩
    · next t =>
      cases h
      have e1 := hC (t = some (pvL c')) (by simp); have e2 := hC (o' = 0) (by simp); subst e1 e2
      exact ⟨Ext.refl _, id, fun σ _ => by unfold EV.av AV.sg; exact Gv.r⟩
    · cases h
  | .own q o', τ, τ', x, C, h, hC => by
    unfold fit at h
    split at h
    · next r o =>
      split at h
      · next t ht =>
        cases h
        have e1 := hC (o = o') (by simp); subst e1
        obtain ⟨a1, a2, a3, a4⟩ := addP_ext ht
        refine ⟨a1, a4, fun σ hσ => ?_⟩
        unfold EV.av AV.sg
        rw [(hσ q a2).2, a3]; exact Gv.r
      · cases h
    · cases h
  | .osl q n', τ, τ', x, C, h, hC => by
    unfold fit at h
    split at h
    · next r n =>
      split at h
      · next t ht =>
        cases h
        have e1 := hC (n = n') (by simp); subst e1
        obtain ⟨a1, a2, a3, a4⟩ := addP_ext ht
        refine ⟨a1, a4, fun σ hσ => ?_⟩
        unfold EV.av AV.sg
        rw [(hσ q a2).2, a3]; exact Gv.r
      · cases h
    · cases h
  | .agg m, τ, τ', x, C, h, hC => by
    unfold fit at h
    split at h
    · next l =>
      obtain ⟨a1, a2, a3⟩ := fitL_ok m h hC
      refine ⟨a1, a2, fun σ hσ => ?_⟩
      unfold EV.av AV.sg
      intro w Pub φ u hu
      unfold RA at hu ⊢
      obtain ⟨vs, e, hu⟩ := hu
      exact ⟨vs, e, (a3 σ hσ).R hu⟩
    · cases h
  | .tup m, τ, τ', x, C, h, hC => by
    unfold fit at h
    split at h
    · next l =>
      obtain ⟨a1, a2, a3⟩ := fitL_ok m h hC
      refine ⟨a1, a2, fun σ hσ => ?_⟩
      unfold EV.av AV.sg
      intro w Pub φ u hu
      unfold RA at hu ⊢
      obtain ⟨vs, e, hu⟩ := hu
      exact ⟨vs, e, (a3 σ hσ).R hu⟩
    · cases h
  | .po q s j o, τ, τ', x, C, h, hC => by
    unfold fit at h
    split at h
    · next r s' i o' =>
      cases hb : Nat.beq s s' && Nat.beq o o' with
      | false => rw [hb] at h; cases h
      | true =>
        rw [hb] at h
        simp only [cond_true] at h
        simp only [Bool.and_eq_true] at hb
        split at h
        · next t ht =>
          cases h
          have e1 := nat_eq hb.1; have e2 := nat_eq hb.2; subst e1 e2
          have e1 := hC (i = j) (by simp); subst e1
          obtain ⟨a1, a2, a3, a4⟩ := addP_ext ht
          refine ⟨a1, a4, fun σ hσ => ?_⟩
          unfold EV.av AV.sg
          rw [(hσ q a2).2, a3]; exact Gv.r
        · cases h
    · cases h
  | .cnd g z, τ, τ', x, C, h, hC => by
    unfold fit at h; cases h
  | .pb l i, τ, τ', x, C, h, hC => by
    unfold fit at h; cases h
    have e := hC (x = .pb l i) (by simp); subst e
    exact ⟨Ext.refl _, id, fun σ _ => by unfold EV.av AV.sg; exact Gv.r⟩
  | .pz n s f i o, τ, τ', x, C, h, hC => by
    unfold fit at h; cases h
    have e := hC (x = .pz n s f i o) (by simp); subst e
    exact ⟨Ext.refl _, id, fun σ _ => by unfold EV.av AV.sg; exact Gv.r⟩
  | .fn f' c', τ, τ', x, C, h, hC => by
    unfold fit at h
    split at h
    · next f c =>
      cases hb : Nat.beq f f' with
      | false => rw [hb] at h; cases h
      | true =>
        rw [hb] at h; cases h
        have e1 := hC (c = c') (by simp); subst e1
        have e2 := nat_eq hb; subst e2
        exact ⟨Ext.refl _, id, fun σ _ => by unfold EV.av AV.sg; exact Gv.r⟩
    · cases h
  | .rp t', τ, τ', x, C, h, hC => by
    unfold fit at h
    split at h
    · next t =>
      cases h
      have e1 := hC (t = t') (by simp); subst e1
      exact ⟨Ext.refl _, id, fun σ _ => by unfold EV.av AV.sg; exact Gv.r⟩
    · cases hb : x.sh with
      | false => rw [hb] at h; cases h
      | true =>
        rw [hb] at h; cases h
        have e1 := hC (x.pv = rpP t') (by simp)
        refine ⟨Ext.refl _, id, fun σ _ => ?_⟩
        have e2 : (EV.rp t').av.sg σ = .p x.pv := by rw [e1]; unfold EV.av AV.sg; rfl
        rw [e2]; exact Gv.sh hb
  | .mref q, τ, τ', x, C, h, hC => by
    unfold fit at h
    split at h
    · next r =>
      cases ht : addP τ q r with
      | none => rw [ht] at h; cases h
      | some t =>
        rw [ht] at h; cases h
        obtain ⟨a1, a2, a3, a4⟩ := addP_ext ht
        refine ⟨a1, a4, fun σ hσ => ?_⟩
        unfold EV.av AV.sg
        rw [(hσ q a2).2, a3]; exact Gv.r
    · cases h
  | .oss _ _ _ _, τ, τ', x, C, h, hC => by unfold fit at h; cases h
  | .raw z, τ, τ', x, C, h, hC => by
    unfold fit at h; cases h
    have e := hC (x = .raw z) (by simp); subst e
    exact ⟨Ext.refl _, id, fun σ _ => by unfold EV.av AV.sg; exact Gv.r⟩
theorem fitL_ok : ∀ (ys : List EV) {τ τ' : List (Nat × Nat)} {xs : List EV} {C : List Prop}, fitL τ xs ys = some (C, τ') → (∀ c ∈ C, c) →
    Ext τ' τ ∧ (sgOk τ = true → sgOk τ' = true) ∧ ∀ σ, Ext σ τ' → AllGv (avL xs) (sgL σ (avL ys))
  | [], τ, τ', xs, C, h, hC => by
    unfold fitL at h
    split at h
    · cases h; exact ⟨Ext.refl _, id, fun σ _ => AllGv.nil⟩
    · cases h
  | y :: ys, τ, τ', xs, C, h, hC => by
    unfold fitL at h
    split at h
    · next x xs' =>
      split at h
      · next C1 τ1 h1 =>
        split at h
        · next C2 τ2 h2 =>
          cases h
          obtain ⟨a1, a2, a3⟩ := fit_ok y h1 (fun c hc => hC c (List.mem_append_left _ hc))
          obtain ⟨b1, b2, b3⟩ := fitL_ok ys h2 (fun c hc => hC c (List.mem_append_right _ hc))
          refine ⟨b1.trans a1, fun ho => b2 (a2 ho), fun σ hσ => ?_⟩
          unfold avL sgL
          exact AllGv.cons (a3 σ (hσ.trans b1)) (b3 σ hσ)
        · cases h
      · cases h
    · cases h
end
end Go.Proofs.YtcebndkiagbddaaGreatDoor

/- States weakened, with names turned. It names no function of the program. -/
namespace Go.Proofs.YtcebndkiagbddaaGreatDoor
open Go.RowKit
set_option linter.unusedVariables false
set_option linter.unusedSimpArgs false

mutual
theorem fit_inD : ∀ (y : EV) {τ τ' : List (Nat × Nat)} {x : EV} {C : List Prop}, fit τ x y = some (C, τ') → ∀ σ, Ext σ τ' → y.av.inD σ = true
  | .any, τ, τ', x, C, h, σ, hσ => by unfold EV.av AV.inD; rfl
  | .v b, τ, τ', x, C, h, σ, hσ => by unfold EV.av AV.inD; rfl
  | .u8 c, τ, τ', x, C, h, σ, hσ => by unfold EV.av AV.inD; rfl
  | .u32 c, τ, τ', x, C, h, σ, hσ => by unfold EV.av AV.inD; rfl
  | .u64 c, τ, τ', x, C, h, σ, hσ => by unfold EV.av AV.inD; rfl
  | .az _ _, τ, τ', x, C, h, σ, hσ => by unfold EV.av AV.inD; rfl
  | .bs m, τ, τ', x, C, h, σ, hσ => by unfold EV.av AV.inD; rfl
  | .lz _ _ _, τ, τ', x, C, h, σ, hσ => by unfold EV.av AV.inD; rfl
  | .sl _ _, τ, τ', x, C, h, σ, hσ => by unfold EV.av AV.inD; rfl
  | .pp _ _, τ, τ', x, C, h, σ, hσ => by unfold EV.av AV.inD; rfl
  | .pb _ _, τ, τ', x, C, h, σ, hσ => by unfold EV.av AV.inD; rfl
  | .pz _ _ _ _ _, τ, τ', x, C, h, σ, hσ => by unfold EV.av AV.inD; rfl
  | .raw _, τ, τ', x, C, h, σ, hσ => by unfold EV.av AV.inD; rfl
  | .fn _ _, τ, τ', x, C, h, σ, hσ => by unfold EV.av AV.inD; rfl
  | .rp _, τ, τ', x, C, h, σ, hσ => by unfold EV.av AV.inD; rfl
  | .mref q, τ, τ', x, C, h, σ, hσ => by
    unfold fit at h
    split at h
    · next r =>
      cases ht : addP τ q r with
      | none => rw [ht] at h; cases h
      | some t =>
        rw [ht] at h; cases h
        unfold EV.av AV.inD
        exact (hσ q (addP_ext ht).2.1).1
    · cases h
  | .po q _ _ _, τ, τ', x, C, h, σ, hσ => by
    unfold fit at h
    split at h
    · obtain ⟨_, h⟩ := bif_some h
      split at h
      · next t ht => cases h; unfold EV.av AV.inD; exact (hσ q (addP_ext ht).2.1).1
      · cases h
    · cases h
  | .oss _ _ _ _, τ, τ', x, C, h, σ, hσ => by unfold fit at h; cases h
  | .cnd _ _, τ, τ', x, C, h, σ, hσ => by unfold fit at h; cases h
  | .own q o', τ, τ', x, C, h, σ, hσ => by
    unfold fit at h
    split at h
    · split at h
      · next t ht => cases h; unfold EV.av AV.inD; exact (hσ q (addP_ext ht).2.1).1
      · cases h
    · cases h
  | .osl q n', τ, τ', x, C, h, σ, hσ => by
    unfold fit at h
    split at h
    · split at h
      · next t ht => cases h; unfold EV.av AV.inD; exact (hσ q (addP_ext ht).2.1).1
      · cases h
    · cases h
  | .agg m, τ, τ', x, C, h, σ, hσ => by
    unfold fit at h
    split at h
    · unfold EV.av AV.inD; exact fitL_inD m h σ hσ
    · cases h
  | .tup m, τ, τ', x, C, h, σ, hσ => by
    unfold fit at h
    split at h
    · unfold EV.av AV.inD; exact fitL_inD m h σ hσ
    · cases h
theorem fitL_inD : ∀ (ys : List EV) {τ τ' : List (Nat × Nat)} {xs : List EV} {C : List Prop}, fitL τ xs ys = some (C, τ') → ∀ σ, Ext σ τ' → inDL σ (avL ys) = true
  | [], τ, τ', xs, C, h, σ, hσ => rfl
  | y :: ys, τ, τ', xs, C, h, σ, hσ => by
    unfold fitL at h
    split at h
    · split at h
      · next C1 τ1 h1 =>
        split at h
        · next C2 τ2 h2 =>
          cases h
          have e2 := fitL_ext ys h2
          unfold avL inDL
          rw [fit_inD y h1 σ (hσ.trans e2), fitL_inD ys h2 σ hσ]; rfl
        · cases h
      · cases h
    · cases h
theorem fitL_ext : ∀ (ys : List EV) {τ τ' : List (Nat × Nat)} {xs : List EV} {C : List Prop}, fitL τ xs ys = some (C, τ') → Ext τ' τ
  | [], τ, τ', xs, C, h => by
    unfold fitL at h
    split at h
    · cases h; exact Ext.refl _
    · cases h
  | y :: ys, τ, τ', xs, C, h => by
    unfold fitL at h
    split at h
    · split at h
      · next C1 τ1 h1 =>
        split at h
        · next C2 τ2 h2 => cases h; exact (fitL_ext ys h2).trans (fit_ext y h1)
        · cases h
      · cases h
    · cases h
theorem fit_ext : ∀ (y : EV) {τ τ' : List (Nat × Nat)} {x : EV} {C : List Prop}, fit τ x y = some (C, τ') → Ext τ' τ
  | .any, τ, τ', x, C, h => by unfold fit at h; cases h; exact Ext.refl _
  | .v b, τ, τ', x, C, h => by
    unfold fit at h
    split at h
    · split at h <;> cases h; exact Ext.refl _
    · cases h
  | .u8 c, τ, τ', x, C, h => by unfold fit at h; split at h <;> cases h; exact Ext.refl _
  | .u32 c, τ, τ', x, C, h => by unfold fit at h; split at h <;> cases h; exact Ext.refl _
  | .u64 c, τ, τ', x, C, h => by unfold fit at h; split at h <;> cases h; exact Ext.refl _
  | .az _ _, τ, τ', x, C, h => by
    unfold fit at h
    split at h
    · cases h; exact Ext.refl _
    · next l =>
      cases hs : shL l with
      | false => rw [hs] at h; cases h
      | true => rw [hs] at h; cases h; exact Ext.refl _
    · cases h
  | .bs m, τ, τ', x, C, h => by
    unfold fit at h
    split at h
    · cases h; exact Ext.refl _
    · cases h; exact Ext.refl _
    · split at h <;> cases h; exact Ext.refl _
    · cases h
  | .lz n' sz' g, τ, τ', x, C, h => by
    unfold fit at h
    split at h
    · next n sz f =>
      cases hb : Nat.beq sz sz' with
      | false => rw [hb] at h; cases h
      | true => rw [hb] at h; cases h; exact Ext.refl _
    · cases h; exact Ext.refl _
    · cases h; exact Ext.refl _
    · cases h
  | .sl _ _, τ, τ', x, C, h => by
    unfold fit at h
    split at h
    · cases h; exact Ext.refl _
    · cases h; exact Ext.refl _
    · cases h
  | .pp _ _, τ, τ', x, C, h => by unfold fit at h; split at h <;> cases h <;> exact Ext.refl _
  | .pb _ _, τ, τ', x, C, h => by unfold fit at h; cases h; exact Ext.refl _
  | .pz _ _ _ _ _, τ, τ', x, C, h => by unfold fit at h; cases h; exact Ext.refl _
  | .raw _, τ, τ', x, C, h => by unfold fit at h; cases h; exact Ext.refl _
  | .fn f' _, τ, τ', x, C, h => by
    unfold fit at h
    split at h
    · next f c => cases hb : Nat.beq f f' <;> rw [hb] at h <;> cases h; exact Ext.refl _
    · cases h
  | .rp _, τ, τ', x, C, h => by
    unfold fit at h
    split at h
    · cases h; exact Ext.refl _
    · cases hb : x.sh <;> rw [hb] at h <;> cases h; exact Ext.refl _
  | .mref q, τ, τ', x, C, h => by
    unfold fit at h
    split at h
    · next r =>
      cases ht : addP τ q r with
      | none => rw [ht] at h; cases h
      | some t => rw [ht] at h; cases h; exact (addP_ext ht).1
    · cases h
  | .po q _ _ _, τ, τ', x, C, h => by
    unfold fit at h
    split at h
    · obtain ⟨_, h⟩ := bif_some h
      split at h
      · next t ht => cases h; exact (addP_ext ht).1
      · cases h
    · cases h
  | .oss _ _ _ _, τ, τ', x, C, h => by unfold fit at h; cases h
  | .cnd _ _, τ, τ', x, C, h => by unfold fit at h; cases h
  | .own q o', τ, τ', x, C, h => by
    unfold fit at h
    split at h
    · split at h
      · next t ht => cases h; exact (addP_ext ht).1
      · cases h
    · cases h
  | .osl q n', τ, τ', x, C, h => by
    unfold fit at h
    split at h
    · split at h
      · next t ht => cases h; exact (addP_ext ht).1
      · cases h
    · cases h
  | .agg m, τ, τ', x, C, h => by
    unfold fit at h
    split at h
    · exact fitL_ext m h
    · cases h
  | .tup m, τ, τ', x, C, h => by
    unfold fit at h
    split at h
    · exact fitL_ext m h
    · cases h
end
/-- Names, one by one. -/
def addNs (τ : List (Nat × Nat)) : List Nat → List Nat → Option (List (Nat × Nat))
  | [], [] => some τ
  | q' :: qs', q :: qs => match addP τ q' q with
    | some τ' => addNs τ' qs' qs
    | none => none
  | _, _ => none
/-- Is a block also that one? -/
def fitB (τ : List (Nat × Nat)) (x : EB) : EB → Option (List Prop × List (Nat × Nat))
  | .box m t' => match x with
    | .box l t => bif Nat.beq t t' then fitL τ l m else none
    | _ => none
  | .rb m t' p' => match x with
    | .rb l t p => bif Nat.beq t t' then some ([l = m, p ≤ p'], τ) else none
    | .row c t sz p => bif Nat.beq t t' && Nat.beq sz 1 then (match u8sE c with
      | some l => some ([l = m, p ≤ p'], τ)
      | none => none) else none
    | _ => none
  | .row m t' sz' p' => match x with
    | .row l t sz p => bif Nat.beq t t' && Nat.beq sz sz' then some ([l = m, p ≤ p'], τ) else none
    | .box l t => bif Nat.beq t t' && Nat.beq l.length sz' && shL l && onesE l then some ([l = m], τ) else none
    | _ => none
  | .rz n' sz' g t' p' => match x with
    | .rz n sz f t p => bif Nat.beq t t' && Nat.beq sz sz' then some ([n = n', ∀ i, i < n → ∀ j, j < sz → f i j = g i j, p ≤ p'], τ) else none
    | .row l t sz p => bif Nat.beq t t' && Nat.beq sz sz' then some ([l.length = n' * sz, ∀ i, i < n' → ∀ j, j < sz → l.getD (i * sz + j) .any = g i j, p ≤ p'], τ) else none
    | _ => none
  | .bz n' g t' => match x with
    | .bz n f t => bif Nat.beq t t' then some ([n = n', ∀ i, i < n → f i = g i], τ) else none
    | .box l t => bif Nat.beq t t' && shL l && onesE l then some ((l.length = n') :: eqAz g 0 l, τ) else none
    | _ => none
  | .mp es' => match x with
    | .mp es => some ([es = es'], τ)
    | _ => none
  | .it m' a' b' c' => match x with
    | .it m a b c => match addP τ m' m with
      | some τ' => some ([a = a', b = b', c = c'], τ')
      | none => none
    | _ => none
  | .ra n' sz' g t' ns' => match x with
    | .ra n sz f t ns => bif Nat.beq t t' && Nat.beq sz sz' then (match addNs τ ns' ns with
      | some τ' => some ([n = n', ∀ i, i < n → ∀ j, j < sz → f i j = g i j], τ')
      | none => none) else none
    | .rz n sz f t p => bif Nat.beq t t' && Nat.beq sz sz' && Nat.beq p 0 then (match addNs τ ns' ns' with
      | some τ' => some ([n = n', n = 0], τ')
      | none => none) else none
    | _ => none
  | .dead => none
theorem addNs_ext : ∀ (ns' ns : List Nat) {τ τ' : List (Nat × Nat)}, addNs τ ns' ns = some τ' → Ext τ' τ ∧ (sgOk τ = true → sgOk τ' = true) ∧ ∀ σ, Ext σ τ' → ns'.map (sg σ) = ns ∧ (ns'.all fun q => domN q σ) = true
  | [], [], τ, τ', h => by simp only [addNs] at h; cases h; exact ⟨Ext.refl _, id, fun σ _ => ⟨rfl, rfl⟩⟩
  | [], _ :: _, τ, τ', h => by simp only [addNs] at h; cases h
  | _ :: _, [], τ, τ', h => by simp only [addNs] at h; cases h
  | q' :: qs', q :: qs, τ, τ', h => by
    simp only [addNs] at h
    split at h
    · next t ht =>
      obtain ⟨a1, a2, a3, a4⟩ := addP_ext ht
      obtain ⟨b1, b2, b3⟩ := addNs_ext qs' qs h
      refine ⟨b1.trans a1, fun k => b2 (a4 k), fun σ hσ => ?_⟩
      obtain ⟨c1, c2⟩ := b3 σ hσ
      have e := (hσ.trans b1) q' a2
      refine ⟨?_, ?_⟩
      · rw [List.map_cons, c1, e.2, a3]
      · rw [List.all_cons, c2, e.1]; rfl
    · cases h
theorem avL_sh {l : List EV} (h : shL l = true) (k : onesE l = true) : avL l = (pvL l).map AV.p := by
  induction l with
  | nil => rfl
  | cons x l ih =>
    simp only [shL, onesE, Bool.and_eq_true] at h k
    simp only [avL, pvL, List.map_cons]
    rw [ih h.2 k.2, av_pv1 k.1 h.1]
theorem inDL_mapP (σ : List (Nat × Nat)) (l : List PV) : inDL σ (l.map AV.p) = true := by
  induction l with
  | nil => rfl
  | cons x l ih => simp only [List.map_cons, inDL, AV.inD, ih]; rfl
def HpImp (x y : OB) : Prop := x.alive = true ∧ ∀ (w : World) (Pub : Nat → Nat → Prop) (φ : Ghost) (r : Nat), Hp w Pub φ r x → Hp w Pub φ r y
theorem HpImp.row {cells : List PV} {t : TypeId} {sz p p' : Nat} (h : p ≤ p') : HpImp (.row cells t sz p) (.row cells t sz p') := by
  refine ⟨rfl, fun w Pub φ r k => ?_⟩
  rcases k with k | ⟨b, c, cur, fr, k1, k2, k3, k4, k5, k6, k7, k8⟩
  · exact .inl k
  · exact .inr ⟨b, c, cur, fr, k1, k2, k3, k4, k5, k6, k7, fun i hi => ⟨Nat.lt_of_lt_of_le (k8 i hi).1 h, (k8 i hi).2⟩⟩
theorem fitB_ok {τ τ' : List (Nat × Nat)} {x y : EB} {C : List Prop} (h : fitB τ x y = some (C, τ')) (hC : ∀ c ∈ C, c) :
    Ext τ' τ ∧ (sgOk τ = true → sgOk τ' = true) ∧ ∀ σ, Ext σ τ' → HpImp x.ob (y.ob.sg σ) ∧ y.ob.inD σ = true := by
  cases y with
  | box m t' =>
    simp only [fitB] at h
    split at h
    · next l t =>
      cases hb : Nat.beq t t' with
      | false => rw [hb] at h; cases h
      | true =>
        rw [hb] at h
        simp only [cond_true] at h
        have e := nat_eq hb; subst e
        obtain ⟨a1, a2, a3⟩ := fitL_ok m h hC
        refine ⟨a1, a2, fun σ hσ => ⟨⟨rfl, fun w Pub φ r k => ?_⟩, fitL_inD m h σ hσ⟩⟩
        obtain ⟨b, cur, k1, k2, k3, k4, k5⟩ := k
        exact ⟨b, cur, k1, k2, (a3 σ hσ).R k3, k4, k5⟩
    · cases h
  | rb m t' p' =>
    simp only [fitB] at h
    split at h
    · next l t p =>
      cases hb : Nat.beq t t' with
      | false => rw [hb] at h; cases h
      | true =>
        rw [hb] at h; cases h
        have e := nat_eq hb; subst e
        have e1 := hC (l = m) (by simp); subst e1
        exact ⟨Ext.refl _, id, fun σ _ => ⟨HpImp.row (hC (p ≤ p') (by simp)), rfl⟩⟩
    · next c t sz p =>
      cases hb : Nat.beq t t' && Nat.beq sz 1 with
      | false => rw [hb] at h; cases h
      | true =>
        rw [hb] at h
        simp only [cond_true] at h
        split at h
        · next l hl =>
          cases h
          simp only [Bool.and_eq_true] at hb
          have e := nat_eq hb.1; have e2 := nat_eq hb.2; subst e e2
          have e1 := hC (l = m) (by simp); subst e1
          refine ⟨Ext.refl _, id, fun σ _ => ⟨?_, rfl⟩⟩
          have k := HpImp.row (cells := l.map b8P) (t := t) (sz := 1) (hC (p ≤ p') (by simp))
          rw [← (u8sE_ok hl).1] at k
          have k2 : HpImp (EB.row c t 1 p).ob (.row (pvL c) t 1 p') := k
          rw [(u8sE_ok hl).1] at k2; exact k2
        · cases h
    · cases h
  | row m t' sz' p' =>
    simp only [fitB] at h
    split at h
    · next l t sz p =>
      cases hb : Nat.beq t t' && Nat.beq sz sz' with
      | false => rw [hb] at h; cases h
      | true =>
        rw [hb] at h; cases h
        simp only [Bool.and_eq_true] at hb
        have e := nat_eq hb.1; have e2 := nat_eq hb.2; subst e e2
        have e1 := hC (l = m) (by simp); subst e1
        exact ⟨Ext.refl _, id, fun σ _ => ⟨HpImp.row (hC (p ≤ p') (by simp)), rfl⟩⟩
    · next l t =>
      obtain ⟨hb, h⟩ := bif_some h
      cases h
      simp only [Bool.and_eq_true] at hb
      have e1 := nat_eq hb.1.1.1; have e2 := nat_eq hb.1.1.2; subst e1 e2
      have e1 := hC (l = m) (by simp); subst e1
      refine ⟨Ext.refl _, id, fun σ _ => ⟨⟨rfl, fun w Pub φ r k => ?_⟩, rfl⟩⟩
      obtain ⟨b, cur, k1, k2, k3, k4, k5⟩ := k
      have k6 := (avL_pvL l _ hb.1.2).1 k3
      have hlen := RPs_length k6
      rw [Array.length_toList, pvL_length] at hlen
      refine .inr ⟨b, 1, cur, (0, 0), k1, ⟨k2, .inl rfl⟩, by unfold maxLen; omega, by omega, by rw [pvL_length]; omega, ?_, ?_, fun i hi => absurd hi (k5 i)⟩
      · rw [List.take_of_length_le (by rw [Array.length_toList, pvL_length]; omega)]; exact k6
      · rw [List.take_of_length_le (by rw [Array.length_toList, pvL_length]; omega)]; exact k4
    · cases h
  | rz n' sz' g t' p' =>
    simp only [fitB] at h
    split at h
    · next n sz f t p =>
      cases hb : Nat.beq t t' && Nat.beq sz sz' with
      | false => rw [hb] at h; cases h
      | true =>
        rw [hb] at h; cases h
        simp only [Bool.and_eq_true] at hb
        have e := nat_eq hb.1; have e2 := nat_eq hb.2; subst e e2
        have e1 := hC (n = n') (by simp); subst e1
        have e3 := hC (∀ i, i < n → ∀ j, j < sz → f i j = g i j) (by simp)
        refine ⟨Ext.refl _, id, fun σ _ => ⟨?_, rfl⟩⟩
        show HpImp (.row (lzC n sz f) t sz p) (.row (lzC n sz g) t sz p')
        rw [lzC_ext e3]; exact HpImp.row (hC (p ≤ p') (by simp))
    · next l t sz p =>
      cases hb : Nat.beq t t' && Nat.beq sz sz' with
      | false => rw [hb] at h; cases h
      | true =>
        rw [hb] at h; cases h
        simp only [Bool.and_eq_true] at hb
        have e := nat_eq hb.1; have e2 := nat_eq hb.2; subst e e2
        have e1 := hC (l.length = n' * sz) (by simp)
        have e3 := hC (∀ i, i < n' → ∀ j, j < sz → l.getD (i * sz + j) .any = g i j) (by simp)
        refine ⟨Ext.refl _, id, fun σ _ => ⟨?_, rfl⟩⟩
        show HpImp (.row (pvL l) t sz p) (.row (lzC n' sz g) t sz p')
        rw [← lzC_of n' sz l e1, lzC_ext e3]; exact HpImp.row (hC (p ≤ p') (by simp))
    · cases h
  | bz n' g t' =>
    have go : ∀ {n : Nat} {t : TypeId}, t = t' → n = n' → x.ob = .box ((azC n g).map AV.p) t → ∀ σ, HpImp x.ob ((EB.bz n' g t').ob.sg σ) ∧ (EB.bz n' g t').ob.inD σ = true := fun {n t} e1 e2 e3 σ => by
      subst e1 e2
      refine ⟨?_, inDL_mapP σ _⟩
      have e4 : (EB.bz n g t).ob.sg σ = .box ((azC n g).map AV.p) t := by
        show OB.box (sgL σ ((azC n g).map AV.p)) t = _
        rw [sgL_mapP]
      rw [e4, e3]
      exact ⟨rfl, fun w Pub φ r k => k⟩
    simp only [fitB] at h
    split at h
    · next n f t =>
      cases hb : Nat.beq t t' with
      | false => rw [hb] at h; cases h
      | true =>
        rw [hb] at h; cases h
        have e1 := hC (n = n') (by simp)
        have e2 := hC (∀ i, i < n → f i = g i) (by simp)
        refine ⟨Ext.refl _, id, fun σ _ => go (nat_eq hb) e1 ?_ σ⟩
        have e3 : azC n f = azC n g := List.map_congr_left fun i hi => by rw [e2 i (List.mem_range.1 hi)]
        show OB.box ((azC n f).map AV.p) t = _
        rw [e3]
    · next l t =>
      cases hb : Nat.beq t t' && shL l && onesE l with
      | false => rw [hb] at h; cases h
      | true =>
        rw [hb] at h; cases h
        simp only [Bool.and_eq_true] at hb
        have e1 := hC (l.length = n') (by simp)
        refine ⟨Ext.refl _, id, fun σ _ => go (nat_eq hb.1.1) e1 ?_ σ⟩
        show OB.box (avL l) t = _
        rw [avL_sh hb.1.2 hb.2, eqAz_pv (g := g) fun c hc => hC c (List.mem_cons_of_mem _ hc)]
    · cases h
  | mp es' =>
    simp only [fitB] at h
    split at h
    · next es =>
      cases h
      have e1 := hC (es = es') (by simp); subst e1
      exact ⟨Ext.refl _, id, fun σ _ => ⟨⟨rfl, fun w Pub φ r k => k⟩, rfl⟩⟩
    · cases h
  | it m' a' b' c' =>
    simp only [fitB] at h
    split at h
    · next m a b c =>
      split at h
      · next t ht =>
        cases h
        have e1 := hC (a = a') (by simp); have e2 := hC (b = b') (by simp); have e3 := hC (c = c') (by simp)
        subst e1 e2 e3
        obtain ⟨a1, a2, a3, a4⟩ := addP_ext ht
        refine ⟨a1, a4, fun σ hσ => ?_⟩
        have e4 : (EB.it m' a b c).ob.sg σ = (EB.it m a b c).ob := by
          show OB.it (sg σ m') _ _ _ = OB.it m _ _ _
          rw [(hσ m' a2).2, a3]
        rw [e4]
        exact ⟨⟨rfl, fun w Pub φ r k => k⟩, (hσ m' a2).1⟩
      · cases h
    · cases h
  | ra n' sz' g t' ns' =>
    simp only [fitB] at h
    split at h
    · next n sz f t ns =>
      cases hb : Nat.beq t t' && Nat.beq sz sz' with
      | false => rw [hb] at h; cases h
      | true =>
        rw [hb] at h
        simp only [cond_true] at h
        rw [Bool.and_eq_true] at hb
        have e1 := nat_eq hb.1; have e2 := nat_eq hb.2; subst e1 e2
        split at h
        · next τ1 h1 =>
          cases h
          have e1 := hC (n = n') (by simp); have e2 := hC (∀ i, i < n → ∀ j, j < sz → f i j = g i j) (by simp)
          subst e1
          obtain ⟨a1, a2, a3⟩ := addNs_ext _ _ h1
          refine ⟨a1, a2, fun σ hσ => ?_⟩
          obtain ⟨b1, b2⟩ := a3 σ hσ
          have e : (EB.ra n sz g t ns').ob.sg σ = (EB.ra n sz f t ns).ob := by
            show OB.ra _ _ _ (ns'.map (sg σ)) = OB.ra _ _ _ _
            rw [b1]
            congr 1
            exact flat_congr fun i hi j hj => (congrArg EV.av (e2 i hi j hj)).symm
          rw [e]
          exact ⟨⟨rfl, fun w Pub φ r k => k⟩, b2⟩
        · cases h
    · next n sz f t p =>
      cases hb : Nat.beq t t' && Nat.beq sz sz' && Nat.beq p 0 with
      | false => rw [hb] at h; cases h
      | true =>
        rw [hb] at h
        simp only [cond_true] at h
        simp only [Bool.and_eq_true] at hb
        have e1 := nat_eq hb.1.1; have e2 := nat_eq hb.1.2; have e3 := nat_eq hb.2; subst e1 e2 e3
        split at h
        · next τ1 h1 =>
          cases h
          have e1 := hC (n = n') (by simp); have e2 := hC (n = 0) (by simp)
          subst e1 e2
          obtain ⟨a1, a2, a3⟩ := addNs_ext _ _ h1
          refine ⟨a1, a2, fun σ hσ => ⟨⟨rfl, fun w Pub φ r k => ?_⟩, (a3 σ hσ).2⟩⟩
          rcases k with ⟨k1, k2⟩ | ⟨b, c, cur, fr, k1, k2, k3, k4, k5, k6, k7, k8⟩
          · exact .inl ⟨k1, rfl⟩
          · exact .inr ⟨b, c, cur, fr, k1, k2, k3, k4, k5, by unfold RAs; rfl, by intro u hu; simp at hu, fun i hp => by have := (k8 i hp).1; omega⟩
        · cases h
    · cases h
  | dead => simp only [fitB] at h; cases h

def fitS (sl : List (Nat × EV)) (τ : List (Nat × Nat)) : List (Nat × EV) → Option (List Prop × List (Nat × Nat))
  | [] => some ([], τ)
  | (s, y) :: ys => match fit τ (look .any sl s) y with
    | some (C, τ') => match fitS sl τ' ys with
      | some (C', τ'') => some (C ++ C', τ'')
      | none => none
    | none => none
def fitH (hp : List (Nat × EB)) (τ : List (Nat × Nat)) : List (Nat × EB) → Option (List Prop × List (Nat × Nat))
  | [] => some ([], τ)
  | (q, y) :: ys => bif domN q τ then (match fitB τ (look .dead hp (sg τ q)) y with
    | some (C, τ') => match fitH hp τ' ys with
      | some (C', τ'') => some (C ++ C', τ'')
      | none => none
    | none => none) else none
def kpOk (kp : List Nat) (σ : List (Nat × Nat)) : Bool := kp.all fun q => !domN q σ || Nat.beq (sg σ q) q
theorem fitS_ok {sl : List (Nat × EV)} : ∀ {ys : List (Nat × EV)} {τ τ' : List (Nat × Nat)} {C : List Prop}, fitS sl τ ys = some (C, τ') → (∀ c ∈ C, c) →
    Ext τ' τ ∧ (sgOk τ = true → sgOk τ' = true) ∧ ∀ σ, Ext σ τ' → ∀ s, Gv (look .any sl s).av ((look .any ys s).av.sg σ) ∧ (look .any ys s).av.inD σ = true
  | [], τ, τ', C, h, hC => by
    unfold fitS at h; cases h
    exact ⟨Ext.refl _, id, fun σ _ s => ⟨by simp only [look]; unfold EV.av AV.sg; exact Gv.any, by simp only [look]; unfold EV.av AV.inD; rfl⟩⟩
  | (s0, y) :: ys, τ, τ', C, h, hC => by
    unfold fitS at h
    split at h
    · next C1 τ1 h1 =>
      split at h
      · next C2 τ2 h2 =>
        cases h
        obtain ⟨a1, a2, a3⟩ := fit_ok y h1 (fun c hc => hC c (List.mem_append_left _ hc))
        obtain ⟨b1, b2, b3⟩ := fitS_ok h2 (fun c hc => hC c (List.mem_append_right _ hc))
        refine ⟨b1.trans a1, fun ho => b2 (a2 ho), fun σ hσ s => ?_⟩
        rw [look_cons]
        split
        · next e => subst e; exact ⟨a3 σ (hσ.trans b1), fit_inD y h1 σ (hσ.trans b1)⟩
        · exact b3 σ hσ s
      · cases h
    · cases h
theorem fitH_ok {hp : List (Nat × EB)} : ∀ {ys : List (Nat × EB)} {τ τ' : List (Nat × Nat)} {C : List Prop}, fitH hp τ ys = some (C, τ') → (∀ c ∈ C, c) →
    Ext τ' τ ∧ (sgOk τ = true → sgOk τ' = true) ∧ ∀ σ, Ext σ τ' → inDH σ (obs ys) = true ∧ ∀ q, (look EB.dead ys q).alive = true → HpImp (look EB.dead hp (sg σ q)).ob ((look EB.dead ys q).ob.sg σ)
  | [], τ, τ', C, h, hC => by
    unfold fitH at h; cases h
    exact ⟨Ext.refl _, id, fun σ _ => ⟨rfl, fun q hq => by simp [look, EB.alive] at hq⟩⟩
  | (q0, y) :: ys, τ, τ', C, h, hC => by
    unfold fitH at h
    cases hd : domN q0 τ with
    | false => rw [hd] at h; cases h
    | true =>
      rw [hd] at h
      simp only [cond_true] at h
      split at h
      · next C1 τ1 h1 =>
        split at h
        · next C2 τ2 h2 =>
          cases h
          obtain ⟨a1, a2, a3⟩ := fitB_ok h1 (fun c hc => hC c (List.mem_append_left _ hc))
          obtain ⟨b1, b2, b3⟩ := fitH_ok h2 (fun c hc => hC c (List.mem_append_right _ hc))
          refine ⟨b1.trans a1, fun ho => b2 (a2 ho), fun σ hσ => ?_⟩
          obtain ⟨c1, c2⟩ := b3 σ hσ
          obtain ⟨d1, d2⟩ := a3 σ (hσ.trans b1)
          have hq := (hσ.trans b1).trans a1 q0 hd
          refine ⟨by simp only [obs, inDH, Bool.and_eq_true]; exact ⟨⟨hq.1, d2⟩, c1⟩, fun q hal => ?_⟩
          rw [look_cons] at hal ⊢
          by_cases e : q0 = q
          · subst e; rw [if_pos rfl, hq.2]; exact d1
          · rw [if_neg e] at hal ⊢; exact c2 q hal
        · cases h
      · cases h
section
variable {E : Env} {kp : List Nat} {n : Nat}
theorem Inv.ren {φ : Ghost} {Pub : Nat → Nat → Prop} {h h' : List (Nat × OB)} {w : World} {σ : List (Nat × Nat)} (I : Inv E kp φ Pub h w) (ho : sgOk σ = true) (hk : kpOk kp σ = true) (hi : inDH σ h' = true)
    (hb : ∀ q, (look OB.dead h' q).alive = true → HpImp (look OB.dead h (sg σ q)) ((look OB.dead h' q).sg σ)) : Inv E kp (fun q => if domN q σ = true then φ (sg σ q) else φ q) Pub h' w := by
  have H : ∀ q, domN q σ = true → φ (sg σ q) = (fun q => if domN q σ = true then φ (sg σ q) else φ q) q := fun q hq => (if_pos hq).symm
  have hd : ∀ q, (look OB.dead h' q).alive = true → domN q σ = true := fun q hq => (inDH_look hi).2 hq
  refine I.next rfl rfl rfl (Nat.le_refl _) (fun _ _ _ => rfl) (Adv.refl _ _) (fun _ _ hp => .inl hp) I.publ (fun q hq => ?_) (fun q b c hq e => ?_) (fun q q' b c c' hq hq' e e' => ?_) (fun q hq => ?_)
  · have k := (hb q hq).2 w Pub φ (sg σ q) (I.own (sg σ q))
    exact (Hp_sg H (hd q hq) (inDH_look hi).1).1 k
  · simp only [if_pos (hd q hq)] at e; exact I.mine (sg σ q) b c (hb q hq).1 e
  · simp only [if_pos (hd q hq)] at e
    simp only [if_pos (hd q' hq')] at e'
    have := I.inj (sg σ q) (sg σ q') b c c' (hb q hq).1 (hb q' hq').1 e e'
    have k1 := sgi_sg ho (hd q hq)
    rw [this, sgi_sg ho (hd q' hq')] at k1
    injection k1 with k1; exact k1.symm
  · unfold kpOk at hk
    have := List.all_eq_true.1 hk q hq
    simp only [Bool.or_eq_true, Bool.not_eq_true'] at this
    rcases this with h1 | h1
    · simp [h1]
    · have := nat_eq h1
      by_cases hdq : domN q σ = true
      · rw [if_pos hdq, this]
      · rw [if_neg hdq]
/-- A state is also that one, with its names turned. -/
def wkF (kp : List Nat) (st st' : ES) : Option (List Prop) :=
  match fitS st.slots [] st'.slots with
  | some (C, τ) => match fitH st.heap τ st'.heap with
    | some (C', σ) => bif kpOk kp σ then some (C ++ C') else none
    | none => none
  | none => none
theorem wkF_ok {st st' : ES} {C : List Prop} (h : wkF kp st st' = some C) (hC : ∀ c ∈ C, c) : Wk E kp n st.as st'.as := by
  unfold wkF at h
  split at h
  · next C1 τ h1 =>
    split at h
    · next C2 σ h2 =>
      cases hk : kpOk kp σ with
      | false => rw [hk] at h; cases h
      | true =>
        rw [hk] at h; cases h
        obtain ⟨a1, a2, a3⟩ := fitS_ok h1 (fun c hc => hC c (List.mem_append_left _ hc))
        obtain ⟨b1, b2, b3⟩ := fitH_ok h2 (fun c hc => hC c (List.mem_append_right _ hc))
        have ho : sgOk σ = true := b2 (a2 rfl)
        obtain ⟨c1, c2⟩ := b3 σ (Ext.refl _)
        rintro a w ⟨φ, Pub, I, h0, hn, hsl⟩
        refine ⟨_, Pub, I.ren ho hk c1 (fun q hq => ?_), h0, hn, fun s => ?_⟩
        · have e : look OB.dead st'.as.heap q = (look EB.dead st'.heap q).ob := look_obs _ _
          have e2 : look OB.dead st.as.heap (sg σ q) = (look EB.dead st.heap (sg σ q)).ob := look_obs _ _
          have hq' : (look OB.dead st'.as.heap q).alive = true := hq
          rw [e, alive_ob] at hq'
          have g := c2 q hq'
          rw [← e, ← e2] at g
          exact g
        · obtain ⟨g1, g2⟩ := a3 σ b1 s
          have e : look AV.any st'.as.slots s = (look EV.any st'.slots s).av := look_avs _ _
          have e2 : look AV.any st.as.slots s = (look EV.any st.slots s).av := look_avs _ _
          rw [e]
          have k := hsl s
          rw [e2] at k
          exact (RA_sg (ψ := φ) (fun q hq => (if_pos hq).symm) _ _ g2).1 (g1 _ _ _ _ k)
    · cases h
  · cases h
end
end Go.Proofs.YtcebndkiagbddaaGreatDoor

/- Contracts over typed values; calls. It names no function of the program. -/
namespace Go.Proofs.YtcebndkiagbddaaGreatDoor
open Go.RowKit
set_option linter.unusedVariables false
set_option linter.unusedSimpArgs false

/-- **The contract of a function**, over typed values. -/
def Ct (P : Program) (f : FuncId) (hin : List (Nat × EB)) (as : List EV) (hout : List (Nat × EB)) (res : EV) : Prop := Ev P f (obs hin) (avL as) (obs hout) res.av

/-- A value that is to be shared, with all that it leads to of the call's own: what is asked for, the value, the blocks that are frozen. -/
def dfL (g : EV → Option (List Prop × EV × List (Nat × EB))) : List EV → Option (List Prop × List EV × List (Nat × EB))
  | [] => some ([], [], [])
  | x :: xs => match g x with
    | some (C, z, F) => match dfL g xs with
      | some (C', l, F') => some (C ++ C', z :: l, F ++ F')
      | none => none
    | none => none
/-- The rows that a row with own kids leads to, shared. -/
def kidL (bs : List (Nat × EB)) : List Nat → Option (List EV × List (Nat × EB))
  | [] => some ([], [])
  | q :: qs => match ob_ bs q with
    | .rz m sz f T _ => match kidL bs qs with
      | some (l, F) => some (.lz m sz f :: l, (q, .rz m sz f T (m * sz)) :: F)
      | none => none
    | _ => none
def lnE : EV → Nat
  | .lz m _ _ => m
  | _ => 0
def raC (kl : List EV) (x : EV) : EV := match x with
  | .osl q k => kl.getD q .any
  | x => x
def raOk (kl : List EV) (x : EV) : Prop := match x with
  | .osl q k => q < kl.length ∧ lnE (kl.getD q .any) = k
  | x => x.sh = true
def raE (bs : List (Nat × EB)) (r n m sz : Nat) (f : Nat → Nat → EV) (T : TypeId) (ns : List Nat) : Option (List Prop × EV × List (Nat × EB)) :=
  match kidL bs ns with
  | some (kl, F) => some ([n = m, ∀ i, i < m → ∀ j, j < sz → raOk kl (f i j)], .lz m sz (fun a b => raC kl (f a b)), (r, .rz m sz (fun a b => raC kl (f a b)) T (m * sz)) :: F)
  | none => none
def dfE (bs : List (Nat × EB)) : Nat → EV → Option (List Prop × EV × List (Nat × EB))
  | 0, _ => none
  | k + 1, x => match x with
    | .own r off => match ob_ bs r with
      | .box cells t => match dfL (dfE bs k) cells with
        | some (C, cs, F) => bif shL cs && onesE cs then some (C, .pp cs off, (r, .row cs t cs.length cs.length) :: F) else none
        | none => none
      | .row cells T sz _ => some ([], .pp cells off, [(r, .row cells T sz cells.length)])
      | _ => none
    | .osl r n => match ob_ bs r with
      | .rb l T _ => some ([n = l.length], .bs l, [(r, .rb l T l.length)])
      | .rz m sz f T _ => some ([n = m], .lz m sz f, [(r, .rz m sz f T (m * sz))])
      | .row cells T sz _ => some ([], .sl cells n, [(r, .row cells T sz cells.length)])
      | .ra m sz f T ns => raE bs r n m sz f T ns
      | _ => none
    | .agg l => match dfL (dfE bs k) l with
      | some (C, cs, F) => some (C, .agg cs, F)
      | none => none
    | x => some ([], x, [])
/-- No variable is frozen twice. -/
def ndB (bs : List (Nat × EB)) : List (Nat × EB) → Bool
  | [] => true
  | (r, _) :: l => (match ob_ bs r with | .box _ _ => !hasK r l | .ra _ _ _ _ _ => !hasK r l | _ => true) && ndB bs l
theorem ndB_suf {bs : List (Nat × EB)} : ∀ {l m : List (Nat × EB)}, ndB bs (l ++ m) = true → ndB bs m = true
  | [], _, h => h
  | (r, x) :: l, m, h => by
    simp only [List.cons_append, ndB, Bool.and_eq_true] at h
    exact ndB_suf h.2
section
variable (hp : List (Nat × EB))
mutual
/-- A result as it is wanted: what is wanted as shared is shared. What is asked for, the value, the blocks that are frozen. -/
def cvE (x : EV) : EV → Option (List Prop × EV × List (Nat × EB))
  | .osl _ _ => some ([], x, [])
  | .own _ _ => some ([], x, [])
  | .mref _ => some ([], x, [])
  | .any => some ([], x, [])
  | .agg ys => match x with
    | .agg xs => match cvL xs ys with
      | some (C, l, F) => some (C, .agg l, F)
      | none => none
    | _ => none
  | .tup ys => match x with
    | .tup xs => match cvL xs ys with
      | some (C, l, F) => some (C, .tup l, F)
      | none => none
    | _ => none
  | _ => match x with
    | .osl r n => match ob_ hp r with
      | .rb l T _ => some ([n = l.length], .bs l, [(r, .rb l T l.length)])
      | .rz m sz f T _ => some ([n = m], .lz m sz f, [(r, .rz m sz f T (m * sz))])
      | .row cells T sz _ => some ([], .sl cells n, [(r, .row cells T sz cells.length)])
      | .ra m sz f T ns => raE hp r n m sz f T ns
      | _ => none
    | .own r off => dfE hp 12 (.own r off)
    | x => some ([], x, [])
def cvL (xs : List EV) : List EV → Option (List Prop × List EV × List (Nat × EB))
  | [] => match xs with
    | [] => some ([], [], [])
    | _ => none
  | y :: ys => match xs with
    | x :: xs => match cvE x y with
      | some (C, z, F) => match cvL xs ys with
        | some (C', l, F') => some (C ++ C', z :: l, F ++ F')
        | none => none
      | none => none
    | [] => none
end
end
def argE (vs : List (Nat × EV)) : List Operand → List EV
  | [] => []
  | x :: xs => evOf vs x :: argE vs xs
/-- The arguments of a call, with what the function called has caught. -/
def argEC (vs : List (Nat × EV)) (ce : List EV) : List Operand → List EV
  | [] => ce
  | x :: xs => evOf vs x :: argEC vs ce xs
section
variable (tab : TT) (vs : List (Nat × EV)) (bs : List (Nat × EB)) (d : Nat)
/-- The arguments of a call; what is of the call's own and wanted as shared is frozen. -/
def argsF (args : List Operand) (ce : List EV) (ys : List EV) : Option (List Prop × List EV × List (Nat × EB)) :=
  match cvL bs (argEC vs ce args) ys with
  | some (C, l, F) => bif ndB bs F then some (C, l, F) else none
  | none => none
def nmC (d q : Nat) : Nat := 1000000 + 1000 * d + q
def newN (d : Nat) (σ : List (Nat × Nat)) : List (Nat × EB) → List (Nat × Nat)
  | [] => σ
  | (q, _) :: h => bif domN q σ then newN d σ h else newN d ((q, nmC d q) :: σ) h
def ndK : List (Nat × EB) → Bool
  | [] => true
  | (q, _) :: h => !hasK q h && ndK h
def callChk (hin hout : List (Nat × EB)) (as : List EV) (res : EV) (σ τ : List (Nat × Nat)) : Bool :=
  closedH (obs hin) (obs hin) && sgOk τ && inDL τ (avL as) && inDH τ (obs hin) && inDH τ (obs hout) && res.av.inD τ && closedH (obs hout) (obs hout) && res.av.inH (obs hout) && ndK hin &&
  (σ.all fun p => (look EB.dead hin p.1).alive) && (τ.all fun p => (look EB.dead hin p.1).alive || ((look EB.dead hout p.1).alive && !(ob_ bs p.2).alive))
def callF (dst : Option Nat) (args : List Operand) (ce : List EV) (hin : List (Nat × EB)) (as : List EV) (hout : List (Nat × EB)) (res : EV) : Option RS :=
  match argsF vs bs args ce as with
  | none => none
  | some (C0, l, F) => match fitL [] l as with
    | none => none
    | some (C1, τ) => match fitH (F ++ bs) τ hin with
      | none => none
      | some (C2, σ) => match newN (dst.getD 999) σ hout with
        | τ' => bif callChk bs hin hout as res σ τ' then some ⟨C0 ++ (C1 ++ C2), (match dst with | some x => [(x, res.sg τ')] | none => []), sgEH τ' hout ++ (deadE τ' hin ++ F)⟩ else none
end

section
variable {P : Program} {E : Env} {kp : List Nat} {n : Nat} {ops : Array Oper} {d : Nat} {ty : TypeId} {ps : String} {af : Array Edge}
variable {tab : TT} {vs : List (Nat × EV)} {bs : List (Nat × EB)} {st : ES}

/-- Only frozen rows, out of rows or variables. -/
def Frz (bs : List (Nat × EB)) (hp : List (Nat × EB)) : Prop :=
  ∀ r eb', (r, eb') ∈ hp → ∃ cells T sz, eb'.ob = .row cells T sz cells.length ∧ ((∃ p, (ob_ bs r).ob = .row cells T sz p) ∨ (∃ avs, (ob_ bs r).ob = .box avs T) ∨ ∃ avs ns, (ob_ bs r).ob = .ra avs T sz ns)
theorem look_in {α : Type} {d : α} : ∀ (l m : List (Nat × α)) (s : Nat), look d (l ++ m) s = look d m s ∨ (s, look d (l ++ m) s) ∈ l
  | [], m, s => .inl rfl
  | (k, x) :: l, m, s => by
    rw [List.cons_append, look_cons]
    split
    · next e => subst e; exact .inr (by simp)
    · rcases look_in l m s with h | h
      · exact .inl h
      · exact .inr (List.mem_cons_of_mem _ h)
theorem mem_obs : ∀ {h : List (Nat × EB)} {r : Nat} {x : OB}, (r, x) ∈ obs h → ∃ eb, (r, eb) ∈ h ∧ eb.ob = x
  | (k, y) :: h, r, x, hm => by
    simp only [obs, List.mem_cons] at hm
    rcases hm with e | hm
    · cases e; exact ⟨y, by simp, rfl⟩
    · obtain ⟨eb, h1, h2⟩ := mem_obs hm; exact ⟨eb, List.mem_cons_of_mem _ h1, h2⟩
/-- In a state with some rows frozen, a row is what it was. -/
theorem Frz.look {hp : List (Nat × EB)} (F : Frz bs hp) (S : Sub vs bs st) {r : Nat} {cells : List PV} {T : TypeId} {sz p : Nat} (h : (ob_ bs r).ob = .row cells T sz p) :
    ∃ p', look OB.dead (obs hp ++ obs st.heap) r = .row cells T sz p' := by
  rcases look_in (d := OB.dead) (obs hp) (obs st.heap) r with e | e
  · refine ⟨p, ?_⟩
    rw [e]
    have := S.ob (r := r) rfl (by intro e2; rw [e2] at h; cases h)
    rw [h] at this; exact this
  · obtain ⟨eb, h1, h2⟩ := mem_obs e
    obtain ⟨c, T', s', k2, ⟨p', k1⟩ | ⟨avs, k1⟩ | ⟨avs, ns, k1⟩⟩ := F r eb h1
    · rw [h] at k1; cases k1
      exact ⟨_, by rw [← h2, k2]⟩
    · rw [h] at k1; cases k1
    · rw [h] at k1; cases k1
theorem argE_eq (vs : List (Nat × EV)) : ∀ args : List Operand, argE vs args = args.map (evOf vs)
  | [] => rfl
  | x :: xs => by simp [argE, argE_eq vs xs]
end
section
variable {E : Env} {kp : List Nat} {st : ES} {vs : List (Nat × EV)} {bs : List (Nat × EB)} {w : World} {φ : Ghost} {Pub0 : Nat → Nat → Prop}
theorem frz_more (S : Sub vs bs st) {r m : Nat} {cells : List PV} {T : TypeId} {sz p : Nat} {eb' : EB} {F : List (Nat × EB)} {u : Value} {y : EV} (fr : Frz bs F) {Pub : Nat → Nat → Prop} (I : Inv E kp φ Pub (obs (F ++ st.heap)) w) (ho : (ob_ bs r).ob = .row cells T sz p) (he : eb'.ob = .row cells T sz cells.length)
    (hy : y.av = .p (.sl cells m)) (hu : RA w Pub φ (.osl r m) u) : Frz bs ((r, eb') :: F) ∧ ∃ Pub', Inv E kp φ Pub' (obs ((r, eb') :: F ++ st.heap)) w ∧ Adv w Pub w Pub' ∧ RA w Pub' φ y.av u := by
  have I2 : Inv E kp φ Pub (obs F ++ obs st.heap) w := by rw [← obs_app]; exact I
  obtain ⟨p', hl⟩ := fr.look S ho
  obtain ⟨Pub', I', H, k1, k2⟩ := I2.share hl (.inl rfl)
  refine ⟨fun r' e' hm => ?_, Pub', ?_, H, ?_⟩
  · rcases List.mem_cons.1 hm with h | h
    · cases h; exact ⟨_, _, _, he, .inl ⟨_, ho⟩⟩
    · exact fr r' e' h
  · show Inv E kp φ Pub' ((r, eb'.ob) :: obs (F ++ st.heap)) w
    rw [he, obs_app]; exact I'
  · have k := shA_R k1 k2 (RA_mono H _ _ (fun _ _ => rfl) hu)
    rw [hy]; simpa [shA] using k
theorem frz_own (S : Sub vs bs st) {r off : Nat} {cells : List PV} {T : TypeId} {sz p : Nat} {eb' : EB} {F : List (Nat × EB)} {u : Value} {y : EV} (fr : Frz bs F) {Pub : Nat → Nat → Prop} (I : Inv E kp φ Pub (obs (F ++ st.heap)) w) (ho : (ob_ bs r).ob = .row cells T sz p) (he : eb'.ob = .row cells T sz cells.length)
    (hy : y.av = .p (.pp cells off)) (hu : RA w Pub φ (EV.own r off).av u) : Frz bs ((r, eb') :: F) ∧ ∃ Pub', Inv E kp φ Pub' (obs ((r, eb') :: F ++ st.heap)) w ∧ Adv w Pub w Pub' ∧ RA w Pub' φ y.av u := by
  have I2 : Inv E kp φ Pub (obs F ++ obs st.heap) w := by rw [← obs_app]; exact I
  obtain ⟨p', hl⟩ := fr.look S ho
  obtain ⟨Pub', I', H, k1, k2⟩ := I2.share hl (.inl rfl)
  refine ⟨fun r' e' hm => ?_, Pub', ?_, H, ?_⟩
  · rcases List.mem_cons.1 hm with h | h
    · cases h; exact ⟨_, _, _, he, .inl ⟨_, ho⟩⟩
    · exact fr r' e' h
  · show Inv E kp φ Pub' ((r, eb'.ob) :: obs (F ++ st.heap)) w
    rw [he, obs_app]; exact I'
  · have k := shA_R k1 k2 (RA_mono H _ _ (fun _ _ => rfl) hu)
    rw [hy]; simpa [shA, EV.av] using k
theorem hasK_obsE {r : Nat} : ∀ {F : List (Nat × EB)}, hasK r (obs F) = hasK r F
  | [] => rfl
  | (q, x) :: F => by simp only [obs, hasK, hasK_obsE (F := F)]
theorem box_look (S : Sub vs bs st) {r : Nat} {cells : List EV} {t : TypeId} {F : List (Nat × EB)} (ho : ob_ bs r = .box cells t) (hk : hasK r F = false) : look OB.dead (obs F ++ obs st.heap) r = .box (avL cells) t := by
  rw [look_app, if_neg (by rw [hasK_obsE, hk]; simp)]
  have k := S.ob (r := r) ho (by simp)
  exact k
theorem box_more (S : Sub vs bs st) {r off : Nat} {cells cs : List EV} {t : TypeId} {F : List (Nat × EB)} {u : Value} (fr : Frz bs F) {Pub : Nat → Nat → Prop} (I : Inv E kp φ Pub (obs (F ++ st.heap)) w) (ho : ob_ bs r = .box cells t) (hk : hasK r F = false)
    (hR : ∀ b cur, φ r = some (b, 1) → w.heap[b]? = some (.cells cur t (0, 0)) → RAs w Pub φ (avL cs) cur.toList) (h1 : onesE cs = true) (h2 : shL cs = true) (hu : RA w Pub φ (.own r off) u) :
    Frz bs ((r, .row cs t cs.length cs.length) :: F) ∧ ∃ Pub', Inv E kp φ Pub' (obs ((r, .row cs t cs.length cs.length) :: F ++ st.heap)) w ∧ Adv w Pub w Pub' ∧ RA w Pub' φ (EV.pp cs off).av u := by
  have I2 : Inv E kp φ Pub (obs F ++ obs st.heap) w := by rw [← obs_app]; exact I
  have hl := box_look S ho hk
  have hal : ∀ q, (look OB.dead ((r, OB.box (avL cs) t) :: (obs F ++ obs st.heap)) q).alive = true → (look OB.dead (obs F ++ obs st.heap) q).alive = true := fun q hq => by
    rw [look_cons] at hq
    by_cases e : r = q
    · subst e; rw [hl]; rfl
    · rw [if_neg e] at hq; exact hq
  have I3 : Inv E kp φ Pub ((r, OB.box (avL cs) t) :: (obs F ++ obs st.heap)) w := by
    refine I2.next rfl rfl rfl (Nat.le_refl _) (fun _ _ _ => rfl) (Adv.refl _ _) (fun _ _ hp => .inl hp) I2.publ (fun q hq => ?_) (fun q b c hq => I2.mine q b c (hal q hq)) (fun q q' b c c' hq hq' => I2.inj q q' b c c' (hal q hq) (hal q' hq')) (fun _ _ => rfl)
    rw [look_cons]
    split
    · next e =>
      subst e
      have k := I2.own r
      rw [hl] at k
      obtain ⟨b, cur, k1, k2, k3, k4, k5⟩ := k
      exact ⟨b, cur, k1, k2, hR b cur k1 k2, k4, k5⟩
    · exact I2.own q
  obtain ⟨Pub', I4, H, k1, k2⟩ := I3.share (r := r) (cells := pvL cs) (t := t) (sz := (pvL cs).length) (pub := 0) (ob := .box (avL cs) t) (by rw [look_cons, if_pos rfl]) (.inr (.inl ⟨_, rfl, toPs_pvL cs h1 h2, rfl⟩))
  refine ⟨fun r' e' hm => ?_, Pub', ?_, H, ?_⟩
  · rcases List.mem_cons.1 hm with h | h
    · cases h; exact ⟨pvL cs, t, cs.length, by simp [EB.ob, pvL_length], .inr (.inl ⟨avL cells, by rw [ho]; rfl⟩)⟩
    · exact fr r' e' h
  · refine I4.sub fun q => .inl ?_
    show look OB.dead ((r, (EB.row cs t cs.length cs.length).ob) :: obs (F ++ st.heap)) q = _
    rw [look_cons, look_cons, look_cons, obs_app]
    split
    · simp [EB.ob, pvL_length]
    · rfl
  · have k := shA_R k1 k2 (RA_mono H _ _ (fun _ _ => rfl) hu)
    simp only [shA, Nat.beq_refl, cond_true] at k
    unfold EV.av; exact k
theorem kid_look (S : Sub vs bs st) {r : Nat} {F : List (Nat × EB)} (ho : ob_ bs r ≠ .dead) (hk : hasK r F = false) : look OB.dead (obs F ++ obs st.heap) r = (ob_ bs r).ob := by
  rw [look_app, if_neg (by rw [hasK_obsE, hk]; simp)]
  exact S.ob (r := r) rfl ho
theorem kidL_ok (S : Sub vs bs st) : ∀ (ns : List Nat) {kl : List EV} {F F0 : List (Nat × EB)} {Pub : Nat → Nat → Prop}, kidL bs ns = some (kl, F) → Frz bs F0 → Inv E kp φ Pub (obs (F0 ++ st.heap)) w →
    Frz bs (F ++ F0) ∧ kl.length = ns.length ∧ ∃ Pub', Inv E kp φ Pub' (obs (F ++ F0 ++ st.heap)) w ∧ Adv w Pub w Pub' ∧ ∀ q r', ns[q]? = some r' → ∀ u, RA w Pub' φ (.osl r' (lnE (kl.getD q .any))) u → RP w Pub' (kl.getD q .any).pv u
  | [], kl, F, F0, Pub, h, fr, I => by
    simp only [kidL] at h; cases h
    exact ⟨fr, rfl, Pub, I, Adv.refl _ _, fun q r' hq => by simp at hq⟩
  | r :: ns, kl, F, F0, Pub, h, fr, I => by
    simp only [kidL] at h
    split at h
    · next m sz f T pub hb =>
      split at h
      · next l F1 h1 =>
        cases h
        obtain ⟨f1, l1, P1, I1, H1, R1⟩ := kidL_ok S ns h1 fr I
        have I2 : Inv E kp φ P1 (obs (F1 ++ F0) ++ obs st.heap) w := by rw [← obs_app]; exact I1
        have ho : (ob_ bs r).ob = .row (lzC m sz f) T sz pub := by rw [hb]; rfl
        obtain ⟨p', hl⟩ := f1.look S ho
        obtain ⟨P2, I3, H, k1, k2⟩ := I2.share hl (.inl rfl)
        have e : (EB.rz m sz f T (m * sz)).ob = .row (lzC m sz f) T sz (lzC m sz f).length := by show OB.row _ _ _ _ = OB.row _ _ _ _; rw [show (lzC m sz f).length = m * sz from lz_len m sz f]
        refine ⟨fun r' e' hm => ?_, by simp [l1], P2, ?_, H1.trans H, fun q r' hq u hu => ?_⟩
        · rw [List.cons_append] at hm
          rcases List.mem_cons.1 hm with h | h
          · cases h; exact ⟨lzC m sz f, _, _, e, .inl ⟨_, ho⟩⟩
          · exact f1 r' e' h
        · show Inv E kp φ P2 ((r, (EB.rz m sz f T (m * sz)).ob) :: obs (F1 ++ F0 ++ st.heap)) w
          rw [obs_app (F1 ++ F0), e]; exact I3
        · cases q with
          | zero =>
            rw [List.getElem?_cons_zero] at hq; cases hq
            simp only [List.getD_cons_zero, lnE] at hu ⊢
            have k := shA_R k1 k2 hu
            simp only [shA, Nat.beq_refl, cond_true] at k
            unfold RA at k
            unfold EV.pv; exact k
          | succ q =>
            rw [List.getElem?_cons_succ] at hq
            simp only [List.getD_cons_succ] at hu ⊢
            exact RP_mono H _ _ (R1 q r' hq u (by unfold RA at hu ⊢; exact hu))
      · cases h
    · cases h
theorem raOk_cases {kl : List EV} {x : EV} (h : raOk kl x) : (∃ q k, x = .osl q k ∧ q < kl.length ∧ lnE (kl.getD q .any) = k) ∨ (raC kl x = x ∧ x.sh = true) := by
  cases x
  case osl q k => exact .inl ⟨q, k, rfl, h⟩
  all_goals exact .inr ⟨rfl, h⟩
theorem RAs_RPs {P0 P1 : Nat → Nat → Prop} {ψ : Ghost} {f : EV → PV} : ∀ (xs : List EV) (us : List Value), (∀ x ∈ xs, ∀ u, RA w P0 ψ x.av u → RP w P1 (f x) u) → RAs w P0 ψ (xs.map EV.av) us → RPs w P1 (xs.map f) us
  | [], us, _, h => by simp only [List.map_nil] at h ⊢; unfold RAs at h; unfold RPs; exact h
  | x :: xs, us, hx, h => by
    simp only [List.map_cons] at h ⊢
    unfold RAs at h; unfold RPs
    obtain ⟨u, vs, e, k1, k2⟩ := h
    exact ⟨u, vs, e, hx x (by simp) u k1, RAs_RPs xs vs (fun y hy => hx y (List.mem_cons_of_mem _ hy)) k2⟩
theorem flat_map {α : Type} (g : EV → α) (n sz : Nat) (f : Nat → Nat → EV) : ((List.range n).flatMap fun i => (List.range sz).map fun j => g (f i j)) = ((List.range n).flatMap fun i => (List.range sz).map fun j => f i j).map g := by
  rw [List.map_flatMap]; simp [Function.comp_def]
theorem ra_more (S : Sub vs bs st) {r n m sz : Nat} {f : Nat → Nat → EV} {T : TypeId} {ns : List Nat} {z : EV} {C : List Prop} {F F0 : List (Nat × EB)} {u : Value} {Pub : Nat → Nat → Prop} (h : raE bs r n m sz f T ns = some (C, z, F)) (ho : ob_ bs r = .ra m sz f T ns)
    (hC : ∀ c ∈ C, c) (fr : Frz bs F0) (nd : ndB bs (F ++ F0) = true) (I : Inv E kp φ Pub (obs (F0 ++ st.heap)) w) (hu : RA w Pub φ (.osl r n) u) :
    Frz bs (F ++ F0) ∧ ∃ Pub', Inv E kp φ Pub' (obs (F ++ F0 ++ st.heap)) w ∧ Adv w Pub w Pub' ∧ RA w Pub' φ z.av u := by
  unfold raE at h
  split at h
  · next kl KF hk =>
    cases h
    have e := hC (n = m) (by simp)
    have hok := hC (∀ i, i < m → ∀ j, j < sz → raOk kl (f i j)) (by simp)
    subst e
    rw [List.cons_append] at nd
    unfold ndB at nd
    rw [ho] at nd
    simp only [Bool.and_eq_true, Bool.not_eq_true'] at nd
    obtain ⟨f1, l1, P1, I1, H1, R1⟩ := kidL_ok S ns hk fr I
    have I2 : Inv E kp φ P1 (obs (KF ++ F0) ++ obs st.heap) w := by rw [← obs_app]; exact I1
    have hl := kid_look S (F := KF ++ F0) (r := r) (by rw [ho]; simp) nd.1
    rw [ho] at hl
    have hcell : ∀ vs, RAs w P1 (loc φ ns) ((List.range n).flatMap fun i => (List.range sz).map fun j => (f i j).av) vs → RPs w P1 (lzC n sz fun a b => raC kl (f a b)) vs := fun vs hv => by
      rw [flat_map EV.av] at hv
      show RPs w P1 ((List.range n).flatMap fun i => (List.range sz).map fun j => (raC kl (f i j)).pv) vs
      rw [flat_map (fun x => (raC kl x).pv)]
      refine RAs_RPs _ _ (fun x hx u k => ?_) hv
      rw [List.mem_flatMap] at hx
      obtain ⟨i, hi, hx⟩ := hx
      rw [List.mem_map] at hx
      obtain ⟨j, hj, rfl⟩ := hx
      rw [List.mem_range] at hi hj
      rcases raOk_cases (hok i hi j hj) with ⟨q, k', e, hq, hlq⟩ | ⟨e, hs⟩
      · rw [e] at k ⊢
        have hq' : ns[q]? = some ns[q] := List.getElem?_eq_getElem (by omega)
        refine R1 q ns[q] hq' u ?_
        unfold EV.av RA at k
        rw [loc_get hq'] at k
        unfold RA
        rw [hlq]; exact k
      · rw [e]; exact (av_pv _ u hs).1 k
    have hlen : ((List.range n).flatMap fun i => (List.range sz).map fun j => (f i j).av).length = (lzC n sz fun a b => raC kl (f a b)).length := by
      rw [show (lzC n sz fun a b => raC kl (f a b)).length = n * sz from lz_len _ _ _, ← lz_len n sz f, flat_map EV.av, flat_map EV.pv, List.length_map, List.length_map]
    obtain ⟨P2, I3, H, k1, k2⟩ := I2.share hl (pub := 0) (.inr (.inr ⟨_, ns, rfl, hlen, hcell⟩))
    have eb : (EB.rz n sz (fun a b => raC kl (f a b)) T (n * sz)).ob = .row (lzC n sz fun a b => raC kl (f a b)) T sz (lzC n sz fun a b => raC kl (f a b)).length := by show OB.row _ _ _ _ = OB.row _ _ _ _; rw [show (lzC n sz fun a b => raC kl (f a b)).length = n * sz from lz_len _ _ _]
    refine ⟨fun r' e' hm => ?_, P2, ?_, H1.trans H, ?_⟩
    · rw [List.cons_append] at hm
      rcases List.mem_cons.1 hm with h | h
      · cases h; exact ⟨_, _, _, eb, .inr (.inr ⟨_, _, by rw [ho]; rfl⟩)⟩
      · exact f1 r' e' h
    · show Inv E kp φ P2 ((r, (EB.rz n sz (fun a b => raC kl (f a b)) T (n * sz)).ob) :: obs (KF ++ F0 ++ st.heap)) w
      rw [obs_app (KF ++ F0), eb]; exact I3
    · have k := shA_R k1 k2 (RA_mono (H1.trans H) _ _ (fun _ _ => rfl) hu)
      simp only [shA, Nat.beq_refl, cond_true] at k
      unfold EV.av EV.pv; exact k
  · cases h
/-- What is asked of a way to share a value. -/
def FzOk (E : Env) (kp : List Nat) (st : ES) (bs : List (Nat × EB)) (w : World) (φ : Ghost) (g : EV → Option (List Prop × EV × List (Nat × EB))) : Prop :=
  ∀ (x z : EV) (C : List Prop) (F F0 : List (Nat × EB)) (u : Value) (Pub : Nat → Nat → Prop), g x = some (C, z, F) → (∀ c ∈ C, c) → Frz bs F0 → ndB bs (F ++ F0) = true → Inv E kp φ Pub (obs (F0 ++ st.heap)) w → RA w Pub φ x.av u →
    Frz bs (F ++ F0) ∧ ∃ Pub', Inv E kp φ Pub' (obs (F ++ F0 ++ st.heap)) w ∧ Adv w Pub w Pub' ∧ RA w Pub' φ z.av u
theorem dfL_ok {g : EV → Option (List Prop × EV × List (Nat × EB))} (hg : FzOk E kp st bs w φ g) : ∀ (xs l : List EV) (C : List Prop) (F F0 : List (Nat × EB)) (us : List Value) (Pub : Nat → Nat → Prop), dfL g xs = some (C, l, F) → (∀ c ∈ C, c) → Frz bs F0 → ndB bs (F ++ F0) = true → Inv E kp φ Pub (obs (F0 ++ st.heap)) w → RAs w Pub φ (avL xs) us →
    Frz bs (F ++ F0) ∧ ∃ Pub', Inv E kp φ Pub' (obs (F ++ F0 ++ st.heap)) w ∧ Adv w Pub w Pub' ∧ RAs w Pub' φ (avL l) us
  | [], l, C, F, F0, us, Pub, h, hC, fr, nd, I, hu => by
    simp only [dfL] at h; cases h
    exact ⟨fr, Pub, I, Adv.refl _ _, hu⟩
  | x :: xs, l, C, F, F0, us, Pub, h, hC, fr, nd, I, hu => by
    simp only [dfL] at h
    split at h
    · next C1 z F1 h1 =>
      split at h
      · next C2 l2 F2 h2 =>
        cases h
        unfold avL RAs at hu
        obtain ⟨u, us', e, hu1, hu2⟩ := hu
        rw [List.append_assoc] at nd
        obtain ⟨f1, P1, I1, H1, R1⟩ := dfL_ok hg xs _ _ _ _ _ _ h2 (fun c hc => hC c (List.mem_append_right _ hc)) fr (ndB_suf nd) I hu2
        obtain ⟨f2, P2, I2, H2, R2⟩ := hg _ _ _ _ _ _ _ h1 (fun c hc => hC c (List.mem_append_left _ hc)) f1 nd I1 (RA_mono H1 _ _ (fun _ _ => rfl) hu1)
        rw [← List.append_assoc] at f2 I2
        refine ⟨f2, P2, I2, H1.trans H2, ?_⟩
        unfold avL RAs
        exact ⟨u, us', e, R2, RAs_mono H2 _ _ (fun _ _ => rfl) R1⟩
      · cases h
    · cases h
theorem dfE_ok (S : Sub vs bs st) : ∀ k, FzOk E kp st bs w φ (dfE bs k)
  | 0, x, z, C, F, F0, u, Pub, h, hC, fr, nd, I, hu => by simp only [dfE] at h; cases h
  | k + 1, x, z, C, F, F0, u, Pub, h, hC, fr, nd, I, hu => by
    unfold dfE at h
    split at h
    · next r off =>
      split at h
      · next cells t hb =>
        split at h
        · next C1 cs F1 h1 =>
          cases hc : shL cs && onesE cs with
          | false => rw [hc] at h; cases h
          | true =>
            rw [hc] at h
            simp only [cond_true] at h
            cases h
            rw [Bool.and_eq_true] at hc
            rw [List.cons_append] at nd
            unfold ndB at nd
            rw [hb] at nd
            simp only [Bool.and_eq_true, Bool.not_eq_true'] at nd
            obtain ⟨n1, n2⟩ := nd
            have n0 : hasK r F0 = false := by
              have : ∀ l : List (Nat × EB), hasK r (l ++ F0) = false → hasK r F0 = false := by
                intro l
                induction l with
                | nil => exact id
                | cons p l ih => intro hh; simp only [List.cons_append, hasK, Bool.or_eq_false_iff] at hh; exact ih hh.2
              exact this F1 n1
            have hl := box_look S (F := F0) hb n0
            have k0 := I.own r
            rw [obs_app, hl] at k0
            obtain ⟨b, cur, k1, k2, k3, k4, k5⟩ := k0
            obtain ⟨f1, P1, I1, H1, R1⟩ := dfL_ok (dfE_ok S k) _ _ _ _ _ _ _ h1 hC fr n2 I k3
            unfold EV.av at hu
            obtain ⟨f2, P2, I2, H2, R2⟩ := box_more S (off := off) f1 I1 hb n1 (fun b' cur' e1 e2 => by
              rw [k1] at e1; cases e1
              rw [k2] at e2; cases e2
              exact R1) hc.2 hc.1 (RA_mono H1 _ _ (fun _ _ => rfl) hu)
            exact ⟨f2, P2, I2, H1.trans H2, R2⟩
        · cases h
      · next cells T sz pub hb =>
        cases h
        exact frz_own S (cells := pvL cells) fr I (by rw [hb]; rfl) (by simp [EB.ob, pvL_length]) rfl hu
      · cases h
    · next r m =>
      unfold EV.av at hu
      split at h
      · next l T pub hb =>
        cases h
        have e : m = l.length := hC (m = l.length) (by simp)
        subst e
        exact frz_more S fr I (by rw [hb]; rfl) (by simp [EB.ob]) rfl hu
      · next m' sz f T pub hb =>
        cases h
        have e : m = m' := hC (m = m') (by simp)
        subst e
        exact frz_more S (cells := lzC m sz f) fr I (by rw [hb]; rfl) (by unfold EB.ob; rw [lz_len]) (by simp [EV.av, EV.pv]) hu
      · next cells T sz pub hb =>
        cases h
        exact frz_more S (cells := pvL cells) fr I (by rw [hb]; rfl) (by simp [EB.ob, pvL_length]) rfl hu
      · next m' sz f T ns hb => exact ra_more S h hb hC fr nd I hu
      · cases h
    · next l =>
      split at h
      · next C1 cs F1 h1 =>
        cases h
        unfold EV.av RA at hu
        obtain ⟨vs, e, hu⟩ := hu
        obtain ⟨f1, P1, I1, H1, R1⟩ := dfL_ok (dfE_ok S k) _ _ _ _ _ _ _ h1 hC fr nd I hu
        exact ⟨f1, P1, I1, H1, by unfold EV.av RA; exact ⟨vs, e, R1⟩⟩
      · cases h
    · cases h; exact ⟨fr, Pub, I, Adv.refl _ _, hu⟩
theorem cvE_leaf (S : Sub vs bs st) {x z : EV} {C : List Prop} {F F0 : List (Nat × EB)} {u : Value} {Pub : Nat → Nat → Prop}
    (h : (match x with
    | .osl r n => match ob_ bs r with
      | .rb l T _ => some ([n = l.length], EV.bs l, [(r, EB.rb l T l.length)])
      | .rz m sz f T _ => some ([n = m], .lz m sz f, [(r, .rz m sz f T (m * sz))])
      | .row cells T sz _ => some ([], .sl cells n, [(r, .row cells T sz cells.length)])
      | .ra m sz f T ns => raE bs r n m sz f T ns
      | _ => none
    | .own r off => dfE bs 12 (.own r off)
    | x => some ([], x, [])) = some (C, z, F)) (hC : ∀ c ∈ C, c) (fr : Frz bs F0) (nd : ndB bs (F ++ F0) = true) (I : Inv E kp φ Pub (obs (F0 ++ st.heap)) w) (hu : RA w Pub φ x.av u) :
    Frz bs (F ++ F0) ∧ ∃ Pub', Inv E kp φ Pub' (obs (F ++ F0 ++ st.heap)) w ∧ Adv w Pub w Pub' ∧ RA w Pub' φ z.av u := by
  split at h
  · next r m =>
    split at h
    · next l T pub hb =>
      cases h
      have e : m = l.length := hC (m = l.length) (by simp)
      subst e
      exact frz_more S fr I (by rw [hb]; rfl) (by simp [EB.ob]) rfl hu
    · next m' sz f T pub hb =>
      cases h
      have e : m = m' := hC (m = m') (by simp)
      subst e
      exact frz_more S (cells := lzC m sz f) fr I (by rw [hb]; rfl) (by unfold EB.ob; rw [lz_len]) (by simp [EV.av, EV.pv]) hu
    · next cells T sz pub hb =>
      cases h
      exact frz_more S (cells := pvL cells) fr I (by rw [hb]; rfl) (by simp [EB.ob, pvL_length]) rfl hu
    · next m' sz f T ns hb => exact ra_more S h hb hC fr nd I (by unfold EV.av at hu; exact hu)
    · cases h
  · next r off => exact dfE_ok S 12 _ _ _ _ _ _ _ h hC fr nd I hu
  · cases h; exact ⟨fr, Pub, I, Adv.refl _ _, hu⟩
mutual
theorem cvE_ok (S : Sub vs bs st) : ∀ (y : EV) {x z : EV} {C : List Prop} {F F0 : List (Nat × EB)} {u : Value} {Pub : Nat → Nat → Prop}, cvE bs x y = some (C, z, F) → (∀ c ∈ C, c) → Frz bs F0 → ndB bs (F ++ F0) = true → Inv E kp φ Pub (obs (F0 ++ st.heap)) w → RA w Pub φ x.av u →
    Frz bs (F ++ F0) ∧ ∃ Pub', Inv E kp φ Pub' (obs (F ++ F0 ++ st.heap)) w ∧ Adv w Pub w Pub' ∧ RA w Pub' φ z.av u
  | .osl _ _, x, z, C, F, F0, u, Pub, h, hC, fr, nd, I, hu => by
    unfold cvE at h; cases h; exact ⟨fr, Pub, I, Adv.refl _ _, hu⟩
  | .own _ _, x, z, C, F, F0, u, Pub, h, hC, fr, nd, I, hu => by
    unfold cvE at h; cases h; exact ⟨fr, Pub, I, Adv.refl _ _, hu⟩
  | .agg ys, x, z, C, F, F0, u, Pub, h, hC, fr, nd, I, hu => by
    unfold cvE at h
    split at h
    · next xs =>
      split at h
      · next C' l F' hl =>
        cases h
        unfold EV.av RA at hu
        obtain ⟨vs, e, hu⟩ := hu
        obtain ⟨f1, Pub', I', H, hR⟩ := cvL_ok S ys hl hC fr nd I hu
        exact ⟨f1, Pub', I', H, by unfold EV.av RA; exact ⟨vs, e, hR⟩⟩
      · cases h
    · cases h
  | .tup ys, x, z, C, F, F0, u, Pub, h, hC, fr, nd, I, hu => by
    unfold cvE at h
    split at h
    · next xs =>
      split at h
      · next C' l F' hl =>
        cases h
        unfold EV.av RA at hu
        obtain ⟨vs, e, hu⟩ := hu
        obtain ⟨f1, Pub', I', H, hR⟩ := cvL_ok S ys hl hC fr nd I hu
        exact ⟨f1, Pub', I', H, by unfold EV.av RA; exact ⟨vs, e, hR⟩⟩
      · cases h
    · cases h
  | .v _, x, z, C, F, F0, u, Pub, h, hC, fr, nd, I, hu => by unfold cvE at h; exact cvE_leaf S h hC fr nd I hu
  | .u8 _, x, z, C, F, F0, u, Pub, h, hC, fr, nd, I, hu => by unfold cvE at h; exact cvE_leaf S h hC fr nd I hu
  | .u32 _, x, z, C, F, F0, u, Pub, h, hC, fr, nd, I, hu => by unfold cvE at h; exact cvE_leaf S h hC fr nd I hu
  | .u64 _, x, z, C, F, F0, u, Pub, h, hC, fr, nd, I, hu => by unfold cvE at h; exact cvE_leaf S h hC fr nd I hu
  | .az _ _, x, z, C, F, F0, u, Pub, h, hC, fr, nd, I, hu => by unfold cvE at h; exact cvE_leaf S h hC fr nd I hu
  | .bs _, x, z, C, F, F0, u, Pub, h, hC, fr, nd, I, hu => by unfold cvE at h; exact cvE_leaf S h hC fr nd I hu
  | .lz _ _ _, x, z, C, F, F0, u, Pub, h, hC, fr, nd, I, hu => by unfold cvE at h; exact cvE_leaf S h hC fr nd I hu
  | .pp _ _, x, z, C, F, F0, u, Pub, h, hC, fr, nd, I, hu => by unfold cvE at h; exact cvE_leaf S h hC fr nd I hu
  | .pb _ _, x, z, C, F, F0, u, Pub, h, hC, fr, nd, I, hu => by unfold cvE at h; exact cvE_leaf S h hC fr nd I hu
  | .pz _ _ _ _ _, x, z, C, F, F0, u, Pub, h, hC, fr, nd, I, hu => by unfold cvE at h; exact cvE_leaf S h hC fr nd I hu
  | .raw _, x, z, C, F, F0, u, Pub, h, hC, fr, nd, I, hu => by unfold cvE at h; exact cvE_leaf S h hC fr nd I hu
  | .fn _ _, x, z, C, F, F0, u, Pub, h, hC, fr, nd, I, hu => by unfold cvE at h; exact cvE_leaf S h hC fr nd I hu
  | .rp _, x, z, C, F, F0, u, Pub, h, hC, fr, nd, I, hu => by unfold cvE at h; exact cvE_leaf S h hC fr nd I hu
  | .mref _, x, z, C, F, F0, u, Pub, h, hC, fr, nd, I, hu => by
    unfold cvE at h; cases h; exact ⟨fr, Pub, I, Adv.refl _ _, hu⟩
  | .sl _ _, x, z, C, F, F0, u, Pub, h, hC, fr, nd, I, hu => by unfold cvE at h; exact cvE_leaf S h hC fr nd I hu
  | .po _ _ _ _, x, z, C, F, F0, u, Pub, h, hC, fr, nd, I, hu => by unfold cvE at h; exact cvE_leaf S h hC fr nd I hu
  | .oss _ _ _ _, x, z, C, F, F0, u, Pub, h, hC, fr, nd, I, hu => by unfold cvE at h; exact cvE_leaf S h hC fr nd I hu
  | .cnd _ _, x, z, C, F, F0, u, Pub, h, hC, fr, nd, I, hu => by unfold cvE at h; exact cvE_leaf S h hC fr nd I hu
  | .any, x, z, C, F, F0, u, Pub, h, hC, fr, nd, I, hu => by
    unfold cvE at h; cases h; exact ⟨fr, Pub, I, Adv.refl _ _, hu⟩
theorem cvL_ok (S : Sub vs bs st) : ∀ (ys : List EV) {xs l : List EV} {C : List Prop} {F F0 : List (Nat × EB)} {us : List Value} {Pub : Nat → Nat → Prop}, cvL bs xs ys = some (C, l, F) → (∀ c ∈ C, c) → Frz bs F0 → ndB bs (F ++ F0) = true → Inv E kp φ Pub (obs (F0 ++ st.heap)) w → RAs w Pub φ (avL xs) us →
    Frz bs (F ++ F0) ∧ ∃ Pub', Inv E kp φ Pub' (obs (F ++ F0 ++ st.heap)) w ∧ Adv w Pub w Pub' ∧ RAs w Pub' φ (avL l) us
  | [], xs, l, C, F, F0, us, Pub, h, hC, fr, nd, I, hu => by
    unfold cvL at h
    split at h
    · cases h; exact ⟨fr, Pub, I, Adv.refl _ _, hu⟩
    · cases h
  | y :: ys, xs, l, C, F, F0, us, Pub, h, hC, fr, nd, I, hu => by
    unfold cvL at h
    split at h
    · next x xs' =>
      split at h
      · next C1 z F1 h1 =>
        split at h
        · next C2 l2 F2 h2 =>
          cases h
          unfold avL RAs at hu
          obtain ⟨u, us', e, hu1, hu2⟩ := hu
          rw [List.append_assoc] at nd
          obtain ⟨f1, P1, I1, H1, R1⟩ := cvL_ok S ys h2 (fun c hc => hC c (List.mem_append_right _ hc)) fr (ndB_suf nd) I hu2
          obtain ⟨f2, P2, I2, H2, R2⟩ := cvE_ok S y h1 (fun c hc => hC c (List.mem_append_left _ hc)) f1 nd I1 (RA_mono H1 _ _ (fun _ _ => rfl) hu1)
          rw [← List.append_assoc] at f2 I2
          refine ⟨f2, P2, I2, H1.trans H2, ?_⟩
          unfold avL RAs
          exact ⟨u, us', e, R2, RAs_mono H2 _ _ (fun _ _ => rfl) R1⟩
        · cases h
      · cases h
    · cases h
end
end
section
variable {P : Program} {E : Env} {kp : List Nat} {n : Nat} {ops : Array Oper} {d : Nat} {ty : TypeId} {ps : String} {af : Array Edge}
variable {tab : TT} {vs : List (Nat × EV)} {bs : List (Nat × EB)} {st : ES}
theorem argsF_ok (S : Sub vs bs st) {a : Act} {w : World} {φ : Ghost} {Pub : Nat → Nat → Prop} (I : Inv E kp φ Pub st.as.heap w) (hs : ∀ s, RA w Pub φ (look .any st.as.slots s) (a.tmps.getD s undef)) {args : List Operand} {ce : List EV} {us : List Value} (hce : RAs w Pub φ (avL ce) us) {as l : List EV} {C : List Prop} {hp : List (Nat × EB)} (h : argsF vs bs args ce as = some (C, l, hp)) (hC : ∀ c ∈ C, c) :
    Frz bs hp ∧ ∃ Pub', Inv E kp φ Pub' (obs (hp ++ st.heap)) w ∧ Adv w Pub w Pub' ∧ RAs w Pub' φ (avL l) (args.map a.eval ++ us) := by
  have hx : ∀ args : List Operand, RAs w Pub φ (avL (argEC vs ce args)) (args.map a.eval ++ us) := by
    intro args
    induction args with
    | nil => simp only [argEC, List.map_nil, List.nil_append]; exact hce
    | cons x xs ih =>
      simp only [argEC, avL, List.map_cons, List.cons_append]; unfold RAs
      exact ⟨_, _, rfl, S.v x _ _ _ _ (ev_R (h := st.as.heap) hs x), ih⟩
  unfold argsF at h
  split at h
  · next C' l' F' hcv =>
   cases hnd : ndB bs F' with
   | false => rw [hnd] at h; cases h
   | true =>
    rw [hnd] at h
    simp only [cond_true] at h
    cases h
    obtain ⟨f1, Pub', I', H, hR⟩ := cvL_ok S (F0 := []) as hcv hC (fun r e hm => by cases hm) (by rw [List.append_nil]; exact hnd) I (hx args)
    rw [List.append_nil] at f1 I'
    exact ⟨f1, Pub', I', H, hR⟩
  · cases h
theorem ndK_look : ∀ {h : List (Nat × EB)} {q : Nat} {x : EB}, ndK h = true → (q, x) ∈ h → look EB.dead h q = x
  | (k, y) :: h, q, x, hn, hm => by
    simp only [ndK, Bool.and_eq_true, Bool.not_eq_true'] at hn
    rw [look_cons]
    rcases List.mem_cons.1 hm with e | e
    · cases e; rw [if_pos rfl]
    · have : k ≠ q := fun e2 => by
        subst e2
        have : hasK k h = true := by
          clear hn hm
          induction h with
          | nil => cases e
          | cons p h ih =>
            rcases List.mem_cons.1 e with e | e
            · subst e; simp [hasK]
            · simp [hasK, ih e]
        rw [hn.1] at this; cases this
      rw [if_neg this]; exact ndK_look hn.2 e
/-- Blocks are said as a contract has them. -/
theorem wk_blocks {φ : Ghost} {Pub : Nat → Nat → Prop} {w : World} {h : List (Nat × OB)} {σ : List (Nat × Nat)} {hin : List (Nat × OB)} (I : Inv E kp φ Pub h w) (ho : sgOk σ = true) (hi : inDH σ hin = true)
    (hb : ∀ q, (look OB.dead hin q).alive = true → HpImp (look OB.dead h (sg σ q)) ((look OB.dead hin q).sg σ)) (hall : ∀ q x, (q, x) ∈ hin → (look OB.dead hin q).alive = true) : Inv E kp φ Pub (sgH σ hin ++ h) w := by
  have cas : ∀ r, look OB.dead (sgH σ hin ++ h) r = look OB.dead h r ∨ ∃ q, r = sg σ q ∧ (look OB.dead hin q).alive = true ∧ look OB.dead (sgH σ hin ++ h) r = (look OB.dead hin q).sg σ := fun r => by
    rw [look_app]
    cases hk : hasK r (sgH σ hin) with
    | false => rw [if_neg (by simp)]; exact .inl rfl
    | true =>
      rw [if_pos rfl]
      -- r is a name of the contract's, turned
      have : ∃ q x, (q, x) ∈ hin ∧ r = sg σ q := by
        clear hb hall hi I
        induction hin with
        | nil => cases hk
        | cons p hin ih =>
          obtain ⟨q, x⟩ := p
          simp only [sgH, hasK, Bool.or_eq_true] at hk
          rcases hk with hk | hk
          · exact ⟨q, x, by simp, (nat_eq hk).symm⟩
          · obtain ⟨q', x', h1, h2⟩ := ih hk; exact ⟨q', x', List.mem_cons_of_mem _ h1, h2⟩
      obtain ⟨q, x, hm, rfl⟩ := this
      have hal := hall q x hm
      exact .inr ⟨q, rfl, hal, look_sgH ho ((inDH_look hi).2 hal) hi⟩
  refine I.next rfl rfl rfl (Nat.le_refl _) (fun _ _ _ => rfl) (Adv.refl _ _) (fun _ _ hp => .inl hp) I.publ (fun r hr => ?_) (fun r b c hr => ?_) (fun r r' b c c' hr hr' => ?_) (fun _ _ => rfl)
  · rcases cas r with e | ⟨q, rfl, h1, h2⟩
    · rw [e]; exact I.own r
    · rw [h2]; exact (hb q h1).2 w Pub φ _ (I.own _)
  · rcases cas r with e | ⟨q, rfl, h1, h2⟩
    · rw [e] at hr; exact I.mine r b c hr
    · exact I.mine _ b c (hb q h1).1
  · have al : ∀ r, (look OB.dead (sgH σ hin ++ h) r).alive = true → (look OB.dead h r).alive = true := fun r hr => by
      rcases cas r with e | ⟨q, rfl, h1, h2⟩
      · rw [e] at hr; exact hr
      · exact (hb q h1).1
    exact I.inj r r' b c c' (al r hr) (al r' hr')
theorem newN_ext (d : Nat) : ∀ (h : List (Nat × EB)) (σ : List (Nat × Nat)), Ext (newN d σ h) σ
  | [], σ => Ext.refl _
  | (q, x) :: h, σ => by
    unfold newN
    cases hd : domN q σ with
    | true => exact newN_ext d h σ
    | false =>
      refine (newN_ext d h _).trans (fun p hp => ?_)
      have hne : q ≠ p := fun e => by subst e; rw [hd] at hp; cases hp
      refine ⟨by simp [domN, hp], ?_⟩
      unfold sg; rw [look_cons, if_neg hne]
theorem newOk_mk {st : AS} {kp : List Nat} {hin : List (Nat × OB)} : ∀ {σ : List (Nat × Nat)}, (∀ p ∈ σ, (look OB.dead hin p.1).alive = true ∨ st.free kp p.2 = true) → newOk st kp hin σ = true
  | [], _ => rfl
  | (q, x) :: σ, h => by
    simp only [newOk, Bool.and_eq_true, Bool.or_eq_true]
    exact ⟨h (q, x) (by simp), newOk_mk fun p hp => h p (List.mem_cons_of_mem _ hp)⟩
theorem mem_sgEH {σ : List (Nat × Nat)} {q : Nat} {x : EB} : ∀ {h : List (Nat × EB)}, (q, x) ∈ h → (sg σ q, x.sg σ) ∈ sgEH σ h
  | (k, y) :: h, hm => by
    rcases List.mem_cons.1 hm with e | e
    · cases e; simp [sgEH]
    · simp only [sgEH]; exact List.mem_cons_of_mem _ (mem_sgEH e)
theorem look_memE : ∀ {l : List (Nat × EB)} {r : Nat}, (look EB.dead l r).alive = true → (r, look EB.dead l r) ∈ l
  | [], r, h => by simp [look, EB.alive] at h
  | (k, x) :: l, r, h => by
    rw [look_cons] at h ⊢
    by_cases e : k = r
    · subst e; rw [if_pos rfl]; simp
    · rw [if_neg e] at h ⊢; exact List.mem_cons_of_mem _ (look_memE h)
theorem mem_obs' {r : Nat} {x : EB} : ∀ {h : List (Nat × EB)}, (r, x) ∈ h → (r, x.ob) ∈ obs h
  | (k, y) :: h, hm => by
    rcases List.mem_cons.1 hm with e | e
    · cases e; simp [obs]
    · simp only [obs]; exact List.mem_cons_of_mem _ (mem_obs' e)
theorem hasK_mem {α : Type} {r : Nat} {x : α} : ∀ {l : List (Nat × α)}, (r, x) ∈ l → hasK r l = true
  | (k, y) :: l, hm => by
    rcases List.mem_cons.1 hm with e | e
    · cases e; simp [hasK]
    · simp [hasK, hasK_mem e]
mutual
theorem has_sg (σ : List (Nat × Nat)) (r : Nat) : ∀ x : AV, (x.sg σ).has r = true → ∃ q, x.has q = true ∧ sg σ q = r
  | .p x, h => by unfold AV.sg AV.has at h; cases h
  | .agg l, h => by
    unfold AV.sg AV.has at h
    obtain ⟨q, h1, h2⟩ := has_sgL σ r l h
    exact ⟨q, by unfold AV.has; exact h1, h2⟩
  | .tup l, h => by
    unfold AV.sg AV.has at h
    obtain ⟨q, h1, h2⟩ := has_sgL σ r l h
    exact ⟨q, by unfold AV.has; exact h1, h2⟩
  | .own q off, h => by unfold AV.sg AV.has at h; exact ⟨q, by unfold AV.has; simp, nat_eq h⟩
  | .osl q m, h => by unfold AV.sg AV.has at h; exact ⟨q, by unfold AV.has; simp, nat_eq h⟩
  | .mref q, h => by unfold AV.sg AV.has at h; exact ⟨q, by unfold AV.has; simp, nat_eq h⟩
  | .oss q _ _ _, h => by unfold AV.sg AV.has at h; exact ⟨q, by unfold AV.has; simp, nat_eq h⟩
  | .cnd g x, h => by
    unfold AV.sg AV.has at h
    obtain ⟨q, h1, h2⟩ := has_sg σ r x h
    exact ⟨q, by unfold AV.has; exact h1, h2⟩
  | .any, h => by unfold AV.sg AV.has at h; cases h
theorem has_sgL (σ : List (Nat × Nat)) (r : Nat) : ∀ l : List AV, hasL r (sgL σ l) = true → ∃ q, hasL q l = true ∧ sg σ q = r
  | [], h => by unfold sgL hasL at h; cases h
  | x :: xs, h => by
    unfold sgL hasL at h
    rw [Bool.or_eq_true] at h
    rcases h with h | h
    · obtain ⟨q, h1, h2⟩ := has_sg σ r x h
      exact ⟨q, by unfold hasL; rw [h1]; rfl, h2⟩
    · obtain ⟨q, h1, h2⟩ := has_sgL σ r xs h
      exact ⟨q, by unfold hasL; rw [h1, Bool.or_true], h2⟩
end
theorem hHas_sgH {σ : List (Nat × Nat)} {r : Nat} {H : List (Nat × OB)} : ∀ {h : List (Nat × OB)}, closedH H h = true → hHas r (sgH σ h) = true → ∃ q, (look OB.dead H q).alive = true ∧ sg σ q = r
  | [], _, h => by cases h
  | (k, .box cells t) :: h, hc, hh => by
    simp only [closedH, Bool.and_eq_true] at hc
    simp only [sgH, hHas, Bool.or_eq_true] at hh
    rcases hh with hh | hh
    · obtain ⟨q, h1, h2⟩ := has_sgL σ r cells hh
      exact ⟨q, inHL_has cells hc.1 h1, h2⟩
    · exact hHas_sgH hc.2 hh
  | (k, .row _ _ _ _) :: h, hc, hh => by
    simp only [closedH] at hc
    simp only [sgH, hHas, OB.sg, OB.has, Bool.false_or] at hh
    exact hHas_sgH hc hh
  | (k, .obj _) :: h, hc, hh => by
    simp only [closedH] at hc
    simp only [sgH, hHas, OB.sg, OB.has, Bool.false_or] at hh
    exact hHas_sgH hc hh
  | (k, .ra _ _ _ ns) :: h, hc, hh => by
    simp only [closedH, Bool.and_eq_true] at hc
    simp only [sgH, hHas, Bool.or_eq_true] at hh
    rcases hh with hh | hh
    · have hm : r ∈ ns.map (sg σ) := List.contains_iff_mem.1 hh
      obtain ⟨q, hq, e⟩ := List.mem_map.1 hm
      exact ⟨q, List.all_eq_true.1 hc.1 q hq, e⟩
    · exact hHas_sgH hc.2 hh
  | (k, .it m _ _ _) :: h, hc, hh => by
    simp only [closedH, Bool.and_eq_true] at hc
    simp only [sgH, hHas, OB.sg, OB.has, Bool.or_eq_true] at hh
    rcases hh with hh | hh
    · exact ⟨m, hc.1, nat_eq hh⟩
    · exact hHas_sgH hc.2 hh
  | (k, .dead) :: h, hc, hh => by simp [closedH] at hc
theorem hasK_sgH_of {σ : List (Nat × Nat)} {r : Nat} : ∀ {h : List (Nat × OB)}, hasK r (sgH σ h) = true → ∃ q x, (q, x) ∈ h ∧ sg σ q = r
  | [], hk => by cases hk
  | (q, x) :: h, hk => by
    simp only [sgH, hasK, Bool.or_eq_true] at hk
    rcases hk with hk | hk
    · exact ⟨q, x, by simp, nat_eq hk⟩
    · obtain ⟨q', x', h1, h2⟩ := hasK_sgH_of hk; exact ⟨q', x', List.mem_cons_of_mem _ h1, h2⟩
theorem hasK_dead_sg {σ : List (Nat × Nat)} {r : Nat} : ∀ {h : List (Nat × OB)}, hasK r (deadH σ h) = hasK r (sgH σ h)
  | [] => rfl
  | (q, x) :: h => by simp only [deadH, sgH, hasK, hasK_dead_sg (h := h)]
theorem hHas_obs_row {r : Nat} {hp : List (Nat × EB)} (F : Frz bs hp) : hHas r (obs hp) = false := by
  induction hp with
  | nil => rfl
  | cons p hp ih =>
    obtain ⟨q, eb⟩ := p
    obtain ⟨c, T, sz, k2, _⟩ := F q eb (by simp)
    simp only [obs, hHas, k2, OB.has, Bool.false_or]
    exact ih fun r' e' hm => F r' e' (List.mem_cons_of_mem _ hm)
theorem hasK_obs {r : Nat} : ∀ {F : List (Nat × EB)}, hasK r (obs F) = true → ∃ eb, (r, eb) ∈ F
  | [], h => by cases h
  | (q, x) :: F, h => by
    simp only [obs, hasK, Bool.or_eq_true] at h
    rcases h with h | h
    · exact ⟨x, by rw [← nat_eq h]; simp⟩
    · obtain ⟨eb, h1⟩ := hasK_obs h; exact ⟨eb, List.mem_cons_of_mem _ h1⟩
theorem sg_mem : ∀ {σ : List (Nat × Nat)} {p : Nat × Nat}, sgOk σ = true → p ∈ σ → sg σ p.1 = p.2 := fun ho hp => sg_self ho _ hp
/-- **A call.** -/
theorem callFG_ok {f : FuncId} {dst : Option Nat} {args : Array Operand} {ce : List EV} {argTypes : Array TypeId} {hin hout : List (Nat × EB)} {as : List EV} {res : EV} {R : RS} (S : Sub vs bs st) (hc : callable P f = true) (hev : Ct P f hin as hout res)
    {x : Operand} (hx : ∀ (a : Act) (w : World) (φ : Ghost) (Pub : Nat → Nat → Prop), (∀ s, RA w Pub φ (look .any st.as.slots s) (a.tmps.getD s undef)) → ∃ us : List Value, a.eval x = .func (.func f) #[] us.toArray ∧ RAs w Pub φ (avL ce) us)
    (h : callF vs bs dst args.toList ce hin as hout res = some R) (hC : ∀ c ∈ R.C, c) (hf : ∀ p ∈ R.hp, (ob_ bs p.1).alive = true ∨ st.free kp p.1 = true) (hd : ∀ x, dst = some x → Nat.blt x n = true) :
    Step P E kp n ops ⟨dst, .call { callee := .value x, args := args, argTypes }, ty, ps, af, none⟩ st.as (R.app st).as := by
  unfold callF at h
  split at h
  · cases h
  · next C0 l F h0 =>
    split at h
    · cases h
    · next C1 τ h1 =>
      split at h
      · cases h
      · next C2 σ h2 =>
        simp only at h
        generalize hτ : newN (dst.getD 999) σ hout = τ' at h
        cases hk : callChk bs hin hout as res σ τ' with
        | false => rw [hk] at h; cases h
        | true =>
          rw [hk] at h
          simp only [cond_true] at h
          cases h
          have hC0 : ∀ c ∈ C0, c := fun c hc => hC c (List.mem_append_left _ hc)
          have hC1 : ∀ c ∈ C1, c := fun c hc => hC c (List.mem_append_right _ (List.mem_append_left _ hc))
          have hC2 : ∀ c ∈ C2, c := fun c hc => hC c (List.mem_append_right _ (List.mem_append_right _ hc))
          unfold callChk at hk
          simp only [Bool.and_eq_true] at hk
          obtain ⟨⟨⟨⟨⟨⟨⟨⟨⟨⟨k0, k1⟩, k2⟩, k3⟩, k4⟩, k5⟩, k6⟩, k7⟩, k8⟩, k9⟩, k10⟩ := hk
          obtain ⟨a1, a2, a3⟩ := fitL_ok as h1 hC1
          obtain ⟨b1, b2, b3⟩ := fitH_ok h2 hC2
          have eσ : Ext τ' σ := by rw [← hτ]; exact newN_ext _ _ _
          obtain ⟨c1, c2⟩ := b3 τ' eσ
          intro a w K Q ⟨φ, Pub, I, h0', hn, hs⟩ hK
          rw [if_pos (by rfl)]
          obtain ⟨us, hx1, hx2⟩ := hx a w φ Pub hs
          obtain ⟨f1, Pub', I', H, hA⟩ := argsF_ok S I hs hx2 h0 hC0
          have hall : ∀ q x, (q, x) ∈ obs hin → (look OB.dead (obs hin) q).alive = true := fun q x hm => by
            obtain ⟨eb, m1, m2⟩ := mem_obs hm
            rw [look_obs, alive_ob, ndK_look k8 m1]
            have hd' : ∀ (l : List (Nat × EB)) (T T' : List (Nat × Nat)) (C : List Prop), fitH (F ++ bs) T l = some (C, T') → (q, eb) ∈ l → eb.alive = true := by
              intro l
              induction l with
              | nil => intro _ _ _ _ hm; cases hm
              | cons p l ih =>
                intro T T' C hh hm
                obtain ⟨q0, y⟩ := p
                unfold fitH at hh
                cases hdm : domN q0 T with
                | false => rw [hdm] at hh; cases hh
                | true =>
                  rw [hdm] at hh
                  simp only [cond_true] at hh
                  split at hh
                  · next Ca Ta hfa =>
                    split at hh
                    · next Cb Tb hfb =>
                      rcases List.mem_cons.1 hm with e | e
                      · cases e
                        cases eb <;> first | rfl | (simp only [fitB] at hfa; cases hfa)
                      · exact ih _ _ _ hfb e
                    · cases hh
                  · cases hh
            exact hd' hin _ _ _ h2 m1
          have I1 : Inv E kp φ Pub' (sgH τ' (obs hin) ++ obs (F ++ st.heap)) w := by
            refine wk_blocks I' k1 c1 (fun q hq => ?_) hall
            have e1 : look OB.dead (obs hin) q = (look EB.dead hin q).ob := look_obs _ _
            rw [e1, alive_ob] at hq
            have g := c2 q hq
            rw [e1]
            -- what is seen of the state is the state's
            have e2 : (look EB.dead (F ++ bs) (sg τ' q)).ob = look OB.dead (obs (F ++ st.heap)) (sg τ' q) := by
              have g1 := g.1
              rw [obs_app, ← look_obs, obs_app, look_app, look_app]
              cases hkk : hasK (sg τ' q) (obs F) with
              | true => rw [if_pos rfl, if_pos rfl]
              | false =>
                rw [if_neg (by simp), if_neg (by simp)]
                have e3 : look OB.dead (obs bs) (sg τ' q) = (ob_ bs (sg τ' q)).ob := look_obs _ _
                rw [e3]
                have hne : ob_ bs (sg τ' q) ≠ .dead := fun e4 => by
                  rw [← look_obs, obs_app, look_app, if_neg (by rw [hkk]; simp), e3, e4] at g1; cases g1
                exact (S.ob rfl hne).symm
            rw [← e2]; exact g
          have hA' : RAs w Pub' φ (sgL τ' (avL as)) (args.toList.map a.eval ++ us) := (a3 τ' (eσ.trans b1)).R hA
          have hsame : ∀ (l : List (Nat × EB)), (∀ q x, (q, x) ∈ l → (q, x) ∈ hin) → sameH ⟨st.as.slots, sgH τ' (obs hin) ++ obs (F ++ st.heap)⟩ τ' (obs l) := by
            intro l
            induction l with
            | nil => intro _; trivial
            | cons p l ih =>
              intro hl
              obtain ⟨q, x⟩ := p
              have hm := hl q x (by simp)
              have hal := hall q x.ob (mem_obs' hm)
              refine ⟨?_, ?_, ih fun q' x' h' => hl q' x' (List.mem_cons_of_mem _ h')⟩
              · show look OB.dead (sgH τ' (obs hin) ++ obs (F ++ st.heap)) (sg τ' q) = x.ob.sg τ'
                have e1 : look OB.dead (obs hin) q = x.ob := by rw [look_obs, ndK_look k8 hm]
                rw [look_app, if_pos, look_sgH k1 ((inDH_look c1).2 hal) c1, e1]
                have := mem_sgEH (σ := τ') hm
                rw [← sgEH_obs]
                exact hasK_mem (mem_obs' this)
              · have e1 : look OB.dead (obs hin) q = x.ob := by rw [look_obs, ndK_look k8 hm]
                rw [e1] at hal; exact hal
          have hxx := callX (P := P) (E := E) (kp := kp) (n := n) (st := ⟨st.as.slots, sgH τ' (obs hin) ++ obs (F ++ st.heap)⟩) (args := args.toList) (argTypes := argTypes) (ty := ty) (ps := ps) (af := af) (d := dst) (Q := Q) (K := K) τ' hc hev (hsame hin fun _ _ h => h) (by
            simp only [Bool.and_eq_true]
            refine ⟨⟨⟨⟨⟨k1, k2⟩, c1⟩, k4⟩, k5⟩, newOk_mk fun p hp => ?_⟩
            by_cases hal : (look OB.dead (obs hin) p.1).alive = true
            · exact .inl hal
            · refine .inr ?_
              have kp10 := List.all_eq_true.1 k10 p hp
              simp only [Bool.or_eq_true, Bool.and_eq_true, Bool.not_eq_true'] at kp10
              have eal : (look EB.dead hin p.1).alive = (look OB.dead (obs hin) p.1).alive := by rw [look_obs, alive_ob]
              rw [eal] at kp10
              rcases kp10 with kp10 | ⟨g1, g2⟩
              · exact absurd kp10 hal
              · have e1 := sg_mem k1 hp
                have m1 := mem_sgEH (σ := τ') (look_memE g1)
                rw [e1] at m1
                have hfr : st.free kp p.2 = true := by
                  rcases hf _ (List.mem_append_left _ m1) with q | q
                  · rw [g2] at q; cases q
                  · exact q
                have hfs := free_split (st := st.as) (kp := kp) (r := p.2) (by rw [as_free]; exact hfr)
                have inj : ∀ q, (look OB.dead (obs hin) q).alive = true → sg τ' q ≠ p.2 := fun q hq e => by
                  have hdq := (inDH_look c1).2 hq
                  have hdp : domN p.1 τ' = true := by
                    have : ∀ (l : List (Nat × Nat)), p ∈ l → domN p.1 l = true := by
                      intro l
                      induction l with
                      | nil => intro hm; cases hm
                      | cons z l ih =>
                        intro hm
                        rcases List.mem_cons.1 hm with e | e
                        · subst e; simp [domN]
                        · simp [domN, ih e]
                    exact this _ hp
                  have k := sgi_sg k1 hdq
                  rw [e, ← e1, sgi_sg k1 hdp] at k
                  injection k with k
                  subst k; exact hal hq
                refine free_mk ?_ ?_ hfs.2.2.1 hfs.2.2.2
                · show (look OB.dead (sgH τ' (obs hin) ++ obs (F ++ st.heap)) p.2).alive = false
                  rw [look_app, if_neg, obs_app, look_app, if_neg]
                  · exact hfs.1
                  · intro hkk
                    have : ∃ eb, (p.2, eb) ∈ F := hasK_obs hkk
                    obtain ⟨eb, hm⟩ := this
                    obtain ⟨c, T, sz, _, ⟨p', q1⟩ | ⟨avs', q1⟩ | ⟨avs', ns', q1⟩⟩ := f1 _ _ hm
                    · rw [← alive_ob, q1] at g2; cases g2
                    · rw [← alive_ob, q1] at g2; cases g2
                    · rw [← alive_ob, q1] at g2; cases g2
                  · intro hkk
                    obtain ⟨q, x, hm, e⟩ := hasK_sgH_of hkk
                    exact inj q (hall q x hm) e
                · show hHas p.2 (sgH τ' (obs hin) ++ obs (F ++ st.heap)) = false
                  rw [hHas_append, obs_app, hHas_append, hHas_obs_row f1, Bool.false_or]
                  have e2 : hHas p.2 (obs st.heap) = false := hfs.2.1
                  rw [e2, Bool.or_false]
                  cases hq : hHas p.2 (sgH τ' (obs hin)) with
                  | false => rfl
                  | true =>
                    obtain ⟨q, q1, q2⟩ := hHas_sgH k0 hq
                    exact absurd q2 (inj q q1)) (by rw [Bool.and_eq_true]; exact ⟨k6, k7⟩) hd I1 h0' hn (fun s => RA_mono H _ _ (fun _ _ => rfl) (hs s)) hx1 hA' (fun a' w' hsat => hK a' w' (by
            refine hsat.congr (fun s => ?_) (fun r => ?_)
            · cases dst with
              | none => rfl
              | some x =>
                show look AV.any ((x, (res.sg τ').av) :: avs st.slots) s = look AV.any ((x, res.av.sg τ') :: avs st.slots) s
                rw [sg_av]
            · show look OB.dead (obs (sgEH τ' hout ++ (deadE τ' hin ++ F) ++ st.heap)) r = look OB.dead (sgH τ' (obs hout) ++ (deadH τ' (obs hin) ++ (sgH τ' (obs hin) ++ obs (F ++ st.heap)))) r
              rw [obs_app, obs_app, sgEH_obs, obs_app, deadE_obs, obs_app, List.append_assoc, List.append_assoc, look_app _ r (sgH τ' (obs hout)), look_app _ r (sgH τ' (obs hout))]
              split
              · rfl
              · rw [look_app _ r (deadH τ' (obs hin)), look_app _ r (deadH τ' (obs hin))]
                split
                · rfl
                · next hnk => rw [look_app _ r (sgH τ' (obs hin)), if_neg (by rw [← hasK_dead_sg]; exact hnk)]))
          have ea : args.toList.toArray = args := by simp
          rw [ea] at hxx; exact hxx
theorem callF_ok {f : FuncId} {dst : Option Nat} {args : Array Operand} {argTypes : Array TypeId} {hin hout : List (Nat × EB)} {as : List EV} {res : EV} {R : RS} (S : Sub vs bs st) (hc : callable P f = true) (hev : Ct P f hin as hout res)
    (h : callF vs bs dst args.toList [] hin as hout res = some R) (hC : ∀ c ∈ R.C, c) (hf : ∀ p ∈ R.hp, (ob_ bs p.1).alive = true ∨ st.free kp p.1 = true) (hd : ∀ x, dst = some x → Nat.blt x n = true) :
    Step P E kp n ops ⟨dst, .call { callee := .value (.func f), args := args, argTypes }, ty, ps, af, none⟩ st.as (R.app st).as :=
  callFG_ok S hc hev (fun a w φ Pub hs => ⟨[], rfl, by unfold avL RAs; rfl⟩) h hC hf hd
/-- What stands in a slot is called. -/
def callV (vs : List (Nat × EV)) (o : Oper) : Option (FuncId × List Operand × List EV) :=
  match o.op with
  | .call ⟨.value (.tmp t), args, _⟩ => match look .any vs t with
    | .fn f caps => bif shL caps then some (f, args.toList, caps) else none
    | .v (.func (.func f) ⟨[]⟩ ⟨[]⟩) => some (f, args.toList, [])
    | _ => none
  | _ => none
theorem callV_eq {vs : List (Nat × EV)} {o : Oper} {f : FuncId} {args : List Operand} {ce : List EV} (h : callV vs o = some (f, args, ce)) : ∃ t a T, o.op = .call { callee := .value (.tmp t), args := a, argTypes := T } ∧ a.toList = args ∧ (look .any vs t = .fn f ce ∨ (look .any vs t = .v (.func (.func f) #[] #[]) ∧ ce = [])) ∧ shL ce = true := by
  unfold callV at h
  split at h
  · next t a T ho =>
    split at h
    · next f' caps hl =>
      cases hs : shL caps with
      | false => rw [hs] at h; cases h
      | true => rw [hs] at h; cases h; exact ⟨t, a, T, ho, rfl, .inl hl, hs⟩
    · next f' hl => cases h; exact ⟨t, a, T, ho, rfl, .inr ⟨hl, rfl⟩, rfl⟩
    · cases h
  · cases h
theorem callV_hx {t : Nat} {f : FuncId} {ce : List EV} {a : Act} {w : World} {φ : Ghost} {Pub : Nat → Nat → Prop} (S : Sub vs bs st) (hl : look .any vs t = .fn f ce ∨ (look .any vs t = .v (.func (.func f) #[] #[]) ∧ ce = [])) (hs : shL ce = true)
    (hr : ∀ s, RA w Pub φ (look .any st.as.slots s) (a.tmps.getD s undef)) : ∃ us : List Value, a.eval (.tmp t) = .func (.func f) #[] us.toArray ∧ RAs w Pub φ (avL ce) us := by
  have k := S.v (.tmp t) _ _ _ _ (ev_R (h := st.as.heap) hr (.tmp t))
  rcases hl with hl | ⟨hl, rfl⟩
  · have e : evOf vs (.tmp t) = .fn f ce := hl
    rw [e] at k
    unfold EV.av RA RP at k
    obtain ⟨us, e1, e2⟩ := k
    exact ⟨us, e1, (avL_pvL ce us hs).2 e2⟩
  · have e : evOf vs (.tmp t) = .v (.func (.func f) #[] #[]) := hl
    rw [e] at k
    unfold EV.av RA RP at k
    exact ⟨[], k, by unfold avL RAs; rfl⟩
theorem callVF_ok {t : Nat} {f : FuncId} {dst : Option Nat} {args : Array Operand} {ce : List EV} {argTypes : Array TypeId} {hin hout : List (Nat × EB)} {as : List EV} {res : EV} {R : RS} (S : Sub vs bs st) (hc : callable P f = true) (hev : Ct P f hin as hout res) (hl : look .any vs t = .fn f ce ∨ (look .any vs t = .v (.func (.func f) #[] #[]) ∧ ce = [])) (hs : shL ce = true)
    (h : callF vs bs dst args.toList ce hin as hout res = some R) (hC : ∀ c ∈ R.C, c) (hf : ∀ p ∈ R.hp, (ob_ bs p.1).alive = true ∨ st.free kp p.1 = true) (hd : ∀ x, dst = some x → Nat.blt x n = true) :
    Step P E kp n ops ⟨dst, .call { callee := .value (.tmp t), args := args, argTypes }, ty, ps, af, none⟩ st.as (R.app st).as := by
  exact callFG_ok S hc hev (fun a w φ Pub hr => callV_hx S hl hs hr) h hC hf hd
/-! ### A call that only reads: what it is given of the caller's own stays the caller's -/
mutual
/-- A value without addresses (a slice of nothing is one). -/
def plainE : EV → Bool
  | .v _ => true
  | .u8 _ => true
  | .u32 _ => true
  | .u64 _ => true
  | .agg l => plainL l
  | .tup l => plainL l
  | .lz n _ _ => Nat.beq n 0
  | _ => false
def plainL : List EV → Bool
  | [] => true
  | x :: xs => plainE x && plainL xs
end
mutual
theorem plain_R {w w' : World} {Pub Pub' : Nat → Nat → Prop} {φ φ' : Ghost} : ∀ (x : EV) (u : Value), plainE x = true → RA w Pub φ x.av u → RA w' Pub' φ' x.av u
  | .v x, u, _, h => by unfold EV.av RA RP at h ⊢; exact h
  | .u8 x, u, _, h => by unfold EV.av RA b8P RP at h ⊢; exact h
  | .u32 x, u, _, h => by unfold EV.av RA u32P RP at h ⊢; exact h
  | .u64 x, u, _, h => by unfold EV.av RA u64P RP at h ⊢; exact h
  | .agg l, u, hp, h => by
    unfold plainE at hp
    unfold EV.av RA at h ⊢
    obtain ⟨vs, e, k⟩ := h
    exact ⟨vs, e, plain_Rs l vs hp k⟩
  | .tup l, u, hp, h => by
    unfold plainE at hp
    unfold EV.av RA at h ⊢
    obtain ⟨vs, e, k⟩ := h
    exact ⟨vs, e, plain_Rs l vs hp k⟩
  | .az _ _, _, hp, _ => by simp [plainE] at hp
  | .bs _, _, hp, _ => by simp [plainE] at hp
  | .lz n sz g, u, hp, h => by
    unfold plainE at hp
    obtain rfl := Nat.eq_of_beq_eq_true hp
    unfold EV.av RA EV.pv RP at h ⊢
    obtain ⟨a, c, e, h1, h2, h3, _⟩ := h
    exact ⟨a, c, e, h1, h2, h3, .inl rfl⟩
  | .pp _ _, _, hp, _ => by simp [plainE] at hp
  | .pb _ _, _, hp, _ => by simp [plainE] at hp
  | .pz _ _ _ _ _, _, hp, _ => by simp [plainE] at hp
  | .raw _, _, hp, _ => by simp [plainE] at hp
  | .sl _ _, _, hp, _ => by simp [plainE] at hp
  | .po _ _ _ _, _, hp, _ => by simp [plainE] at hp
  | .own _ _, _, hp, _ => by simp [plainE] at hp
  | .osl _ _, _, hp, _ => by simp [plainE] at hp
  | .fn _ _, _, hp, _ => by simp [plainE] at hp
  | .rp _, _, hp, _ => by simp [plainE] at hp
  | .mref _, _, hp, _ => by simp [plainE] at hp
  | .oss _ _ _ _, _, hp, _ => by simp [plainE] at hp
  | .cnd _ _, _, hp, _ => by simp [plainE] at hp
  | .any, _, hp, _ => by simp [plainE] at hp
theorem plain_Rs {w w' : World} {Pub Pub' : Nat → Nat → Prop} {φ φ' : Ghost} : ∀ (l : List EV) (us : List Value), plainL l = true → RAs w Pub φ (avL l) us → RAs w' Pub' φ' (avL l) us
  | [], us, _, h => by unfold avL RAs at h ⊢; exact h
  | x :: xs, us, hp, h => by
    unfold plainL at hp
    rw [Bool.and_eq_true] at hp
    unfold avL RAs at h ⊢
    obtain ⟨u, vs, e, k1, k2⟩ := h
    exact ⟨u, vs, e, plain_R x u hp.1 k1, plain_Rs xs vs hp.2 k2⟩
end
/-- What a call that only reads asks for. -/
def borF (vs : List (Nat × EV)) (bs : List (Nat × EB)) (args : List Operand) (ce : List EV) (as : List EV) (res : EV) : Option (List Prop) :=
  match argsF vs bs args ce as with
  | some (C0, l, _) => match fitL [] l as with
    | some (C1, []) => bif plainE res && inDL [] (avL as) then some (C0 ++ C1) else none
    | _ => none
  | none => none
mutual
theorem sg_nil : ∀ x : AV, x.inD [] = true → x.sg [] = x
  | .p x, _ => by unfold AV.sg; rfl
  | .agg l, h => by unfold AV.inD at h; unfold AV.sg; rw [sgL_nil l h]
  | .tup l, h => by unfold AV.inD at h; unfold AV.sg; rw [sgL_nil l h]
  | .own q off, h => by unfold AV.inD at h; cases h
  | .osl q m, h => by unfold AV.inD at h; cases h
  | .cnd g x, h => by unfold AV.inD at h; unfold AV.sg; rw [sg_nil x h]
  | .any, _ => by unfold AV.sg; rfl
theorem sgL_nil : ∀ l : List AV, inDL [] l = true → sgL [] l = l
  | [], _ => rfl
  | x :: xs, h => by
    unfold inDL at h
    rw [Bool.and_eq_true] at h
    unfold sgL; rw [sg_nil x h.1, sgL_nil xs h.2]
end
/-- **A call that only reads.** -/
theorem borrow_ok {f : FuncId} {dst : Nat} {args : Array Operand} {ce : List EV} {argTypes : Array TypeId} {as : List EV} {res : EV} {C : List Prop} (S : Sub vs bs st) (hc : callable P f = true) (hev : Ct P f [] as [] res)
    {x : Operand} (hx : ∀ (a : Act) (w : World) (φ : Ghost) (Pub : Nat → Nat → Prop), (∀ s, RA w Pub φ (look .any st.as.slots s) (a.tmps.getD s undef)) → ∃ us : List Value, a.eval x = .func (.func f) #[] us.toArray ∧ RAs w Pub φ (avL ce) us)
    (h : borF vs bs args.toList ce as res = some C) (hC : ∀ c ∈ C, c) (hd : Nat.blt dst n = true) :
    Step P E kp n ops ⟨some dst, .call { callee := .value x, args := args, argTypes }, ty, ps, af, none⟩ st.as (st.as.put dst res.av) := by
  unfold borF at h
  split at h
  · next C0 l F h0 =>
    split at h
    · next C1 h1 =>
      obtain ⟨hk, h⟩ := bif_some h
      cases h
      rw [Bool.and_eq_true] at hk
      have hC0 : ∀ c ∈ C0, c := fun c hc => hC c (List.mem_append_left _ hc)
      have hC1 : ∀ c ∈ C1, c := fun c hc => hC c (List.mem_append_right _ hc)
      obtain ⟨a1, a2, a3⟩ := fitL_ok as h1 hC1
      intro a w K Q ⟨φ, Pub, I, h0', hn, hs⟩ hK
      rw [if_pos (by rfl)]
      obtain ⟨us, hx1, hx2⟩ := hx a w φ Pub hs
      obtain ⟨f1, Pub', I', H, hA⟩ := argsF_ok S I hs hx2 h0 hC0
      have hA' := (a3 [] (Ext.refl _)).R hA
      rw [sgL_nil _ hk.2] at hA'
      let E1 : Env := ⟨w, fun _ => False, Pub', φ, I'.amb, fun _ _ h => h⟩
      have hdead : ∀ q, (look OB.dead ([] : List (Nat × OB)) q).alive = true → False := fun q h => by cases h
      have I1 : Inv E1 [] φ Pub' [] w := ⟨rfl, rfl, rfl, Nat.le_refl _, fun _ _ _ => rfl, fun q => trivial, fun q b c hq _ => (hdead q hq).elim, fun q _ b c c' hq _ _ _ => (hdead q hq).elim, fun _ _ h => h, fun _ _ h => .inl h, I'.publ, fun _ _ _ => rfl, fun _ h => by cases h⟩
      have hcall := hev E1 φ Pub' w (args.toList.map a.eval ++ us) rfl rfl I1 hA'
      have hrun : (execOp a.eval ⟨some dst, .call { callee := .value x, args := args, argTypes }, ty, ps, af, none⟩).run P w = .ok (.enter f (args.toList.map a.eval ++ us).toArray) w := by
        simp [execOp, resolve, hx1, Deferred.ofValue, invoke, run_callFunc hc]
      unfold Oper.wp
      rw [hrun]
      show Calls P f _ w _
      refine hcall.mono ?_
      rintro e w' ⟨v, φ2, Pub2, rfl, I2, hR⟩
      refine hK _ _ ?_
      have hblk : ∀ b, b < w.heap.size → w'.heap[b]? = w.heap[b]? := fun b hb => I2.block b hb (fun h => h)
      have H2 : Adv w Pub w' Pub := fun b i hp => ⟨hp, World.cell?_of_block (a := ⟨b, i, none⟩) (hblk b (I.publ b i hp))⟩
      have I3 : Inv E kp φ Pub st.as.heap w' := I.next I2.os I2.tape I2.output I2.size (fun b hb _ => hblk b (Nat.lt_of_lt_of_le hb I.size)) H2 (fun _ _ h => .inl h) (fun b i h => Nat.lt_of_lt_of_le (I.publ b i h) I2.size)
        (fun q hq => Hp_keep H2 (fun b c hb => ⟨hblk b (I.lt hq hb), fun _ h => h⟩) rfl (fun _ _ => rfl) (I.own q)) I.mine I.inj (fun _ _ => rfl)
      exact Sat.put I3 h0' hn (fun s => RA_mono H2 _ _ (fun _ _ => rfl) (hs s)) hd (plain_R res v hk.1 hR)
    · cases h
  · cases h
end
end Go.Proofs.YtcebndkiagbddaaGreatDoor

/- A row of which each column has one kind of value, seen as a function of the place: so that an element may be taken at a place that is not a numeral. It names no function of the program. -/
namespace Go.Proofs.YtcebndkiagbddaaGreatDoor
open Go.RowKit
set_option linter.unusedVariables false
set_option linter.unusedSimpArgs false

def homI : List EV → Option (List Int)
  | [] => some []
  | x :: l => match asI64 x with
    | some i => match homI l with
      | some q => some (i :: q)
      | none => none
    | none => none
def homS : List EV → Option (List (List UInt8))
  | [] => some []
  | x :: l => match asS x with
    | some i => match homS l with
      | some q => some (i :: q)
      | none => none
    | none => none
def homB : List EV → Option (List Bool)
  | [] => some []
  | x :: l => match asB x with
    | some i => match homB l with
      | some q => some (i :: q)
      | none => none
    | none => none
def homU : List EV → Option (List UInt32)
  | [] => some []
  | x :: l => match asU32 x with
    | some i => match homU l with
      | some q => some (i :: q)
      | none => none
    | none => none
/-- One column. -/
def homE (l : List EV) : Option (Nat → EV) :=
  match homI l with
  | some q => some fun i => .i (q.getD i 0)
  | none => match homS l with
    | some q => some fun i => .s (q.getD i [])
    | none => match homU l with
      | some q => some fun i => .u32 (q.getD i 0)
      | none => match homB l with
        | some q => some fun i => .b (q.getD i false)
        | none => match u8sE l with
          | some q => some fun i => .u8 (q.getD i 0)
          | none => none
def hdE : List EV → EV
  | [] => .any
  | x :: _ => x
/-- Every s-th of n. -/
def colE (s : Nat) : Nat → List EV → List EV
  | 0, _ => []
  | n + 1, l => hdE l :: colE s n (dpE s l)
def homC (n s : Nat) : Nat → List EV → Option (List (Nat → EV))
  | 0, _ => some []
  | k + 1, l => match homE (colE s n l) with
    | some f => match homC n s k (dpE 1 l) with
      | some fs => some (f :: fs)
      | none => none
    | none => none
def selFn : List (Nat → EV) → Nat → Nat → EV
  | [], _, _ => .any
  | f :: _, i, 0 => f i
  | _ :: fs, i, j + 1 => selFn fs i j
def selF (tab : TT) (vs : List (Nat × EV)) (bs : List (Nat × EB)) (d : Nat) (T : TypeId) (x : Operand) (y : EV) : Option RS :=
  match frz vs bs x with
  | some (.sl cells n, R) => match tab.find T with
    | some ⟨.sl _ s _ _, _, _, _, _⟩ => bif Nat.beq cells.length (n * s) then (match homC n s s cells with
      | some fs => match idxF tab T (.lz n s (fun i j => selFn fs i j)) y with
        | some (C, z) => some ⟨R.C ++ C, (d, z) :: R.sl, R.hp⟩
        | none => none
      | none => none) else none
    | _ => none
  | _ => none

theorem homI_ok : ∀ {l : List EV} {q : List Int}, homI l = some q → l.map EV.pv = q.map (fun i => (EV.i i).pv)
  | [], q, h => by cases h; rfl
  | x :: l, q, h => by
    unfold homI at h
    split at h
    · next i hi =>
      split at h
      · next q' hq => cases h; rw [List.map_cons, List.map_cons, homI_ok hq, asI64_eq hi]
      · cases h
    · cases h
theorem homS_ok : ∀ {l : List EV} {q : List (List UInt8)}, homS l = some q → l.map EV.pv = q.map (fun i => (EV.s i).pv)
  | [], q, h => by cases h; rfl
  | x :: l, q, h => by
    unfold homS at h
    split at h
    · next i hi =>
      split at h
      · next q' hq => cases h; rw [List.map_cons, List.map_cons, homS_ok hq, asS_eq hi]
      · cases h
    · cases h
theorem homB_ok : ∀ {l : List EV} {q : List Bool}, homB l = some q → l.map EV.pv = q.map (fun i => (EV.b i).pv)
  | [], q, h => by cases h; rfl
  | x :: l, q, h => by
    unfold homB at h
    split at h
    · next i hi =>
      split at h
      · next q' hq => cases h; rw [List.map_cons, List.map_cons, homB_ok hq, asB_eq hi]
      · cases h
    · cases h
theorem asU32_pv {x : EV} {c : UInt32} (h : asU32 x = some c) : x.pv = (EV.u32 c).pv := by
  unfold asU32 at h
  split at h
  · cases h; rfl
  · next m =>
    cases hb : Nat.blt m 4294967296 with
    | false => rw [hb] at h; cases h
    | true =>
      rw [hb] at h; cases h
      have hm : m < 4294967296 := by simpa [Nat.blt_eq] using hb
      unfold EV.pv u32P
      rw [UInt32.toNat_ofNat', Nat.mod_eq_of_lt (by simpa using hm)]; rfl
  · cases h
theorem homU_ok : ∀ {l : List EV} {q : List UInt32}, homU l = some q → l.map EV.pv = q.map (fun i => (EV.u32 i).pv)
  | [], q, h => by cases h; rfl
  | x :: l, q, h => by
    unfold homU at h
    split at h
    · next i hi =>
      split at h
      · next q' hq => cases h; rw [List.map_cons, List.map_cons, homU_ok hq, asU32_pv hi]
      · cases h
    · cases h
theorem map_getD {α : Type} {l : List EV} {q : List α} {k : α → EV} {d : α} (h : l.map EV.pv = q.map (fun i => (k i).pv)) (i : Nat) (hi : i < l.length) : (k (q.getD i d)).pv = (l[i]).pv := by
  have hlen : l.length = q.length := by simpa using congrArg List.length h
  have hi' : i < q.length := by omega
  have e := congrArg (fun m => m[i]?) h
  simp only [List.getElem?_map] at e
  rw [List.getElem?_eq_getElem hi, List.getElem?_eq_getElem hi'] at e
  simp only [Option.map_some, Option.some.injEq] at e
  rw [List.getD_eq_getElem?_getD, List.getElem?_eq_getElem hi', e]; rfl
theorem homE_ok {l : List EV} {f : Nat → EV} (h : homE l = some f) (i : Nat) (hi : i < l.length) : (f i).pv = (l[i]).pv := by
  unfold homE at h
  split at h
  · next q hq => cases h; exact map_getD (homI_ok hq) i hi
  · split at h
    · next q hq => cases h; exact map_getD (homS_ok hq) i hi
    · split at h
      · next q hq => cases h; exact map_getD (homU_ok hq) i hi
      · split at h
        · next q hq => cases h; exact map_getD (homB_ok hq) i hi
        · split at h
          · next q hq =>
            cases h
            refine map_getD (k := EV.u8) ?_ i hi
            have e := (u8sE_ok hq).1
            rw [pvL_map] at e
            exact e
          · cases h
theorem colE_len (s : Nat) : ∀ (n : Nat) (l : List EV), (colE s n l).length = n
  | 0, _ => rfl
  | n + 1, l => by simp [colE, colE_len s n]
theorem hdE_get (l : List EV) : hdE l = l.getD 0 .any := by cases l <;> rfl
theorem colE_get (s : Nat) : ∀ (n : Nat) (l : List EV) (i : Nat) (h : i < (colE s n l).length), (colE s n l)[i] = l.getD (i * s) .any
  | 0, l, i, h => by simp [colE] at h
  | n + 1, l, 0, h => by simp [colE, hdE_get]
  | n + 1, l, i + 1, h => by
    have h' : i < (colE s n (dpE s l)).length := by simpa [colE] using h
    show (colE s n (dpE s l))[i] = _
    rw [colE_get s n (dpE s l) i h', dpE_eq, List.getD_eq_getElem?_getD, List.getD_eq_getElem?_getD, List.getElem?_drop, Nat.succ_mul, Nat.add_comm s]
theorem homC_ok {n s : Nat} : ∀ {k : Nat} {l : List EV} {fs : List (Nat → EV)}, homC n s k l = some fs → ∀ j, j < k → ∀ i, i < n → (selFn fs i j).pv = (l.getD (i * s + j) .any).pv
  | 0, _, _, _, j, hj, _, _ => by omega
  | k + 1, l, fs, h, j, hj, i, hi => by
    unfold homC at h
    split at h
    · next f hf =>
      split at h
      · next fs' hfs =>
        cases h
        cases j with
        | zero =>
          show (f i).pv = _
          rw [homE_ok hf i (by rw [colE_len]; exact hi), colE_get]; rfl
        | succ j =>
          show (selFn fs' i j).pv = _
          rw [homC_ok hfs j (by omega) i hi, dpE_eq, List.getD_eq_getElem?_getD, List.getD_eq_getElem?_getD, List.getElem?_drop]
          rw [show 1 + (i * s + j) = i * s + (j + 1) from by omega]
      · cases h
    · cases h
theorem lz_of {n s : Nat} {cells : List EV} {f : Nat → Nat → EV} (hl : cells.length = n * s) (hf : ∀ j, j < s → ∀ i, i < n → (f i j).pv = (cells.getD (i * s + j) .any).pv) : lzC n s f = pvL cells := by
  apply List.ext_getElem?
  intro k
  by_cases hk : k < n * s
  · have hs : 0 < s := by
      rcases Nat.eq_zero_or_pos s with h | h
      · subst h; simp at hk
      · exact h
    have hj : k % s < s := Nat.mod_lt _ hs
    have hi : k / s < n := (Nat.div_lt_iff_lt_mul hs).2 hk
    have e : k / s * s + k % s = k := by rw [Nat.mul_comm]; exact Nat.div_add_mod k s
    have g := lz_get n s f hi hj
    rw [e] at g
    rw [g, hf _ hj _ hi, e, pvL_get, List.getElem?_eq_getElem (by omega), List.getD_eq_getElem?_getD, List.getElem?_eq_getElem (by omega)]; rfl
  · rw [List.getElem?_eq_none (by rw [lz_len]; omega), List.getElem?_eq_none (by rw [pvL_length]; omega)]
section
variable {P : Program} {E : Env} {kp : List Nat} {n : Nat} {ops : Array Oper} {d : Nat} {ty : TypeId} {ps : String} {af : Array Edge}
variable {tab : TT} {vs : List (Nat × EV)} {bs : List (Nat × EB)} {st : ES}
theorem selF_ok {T : TypeId} {x y : Operand} {R : RS} (hP : tab.ok P) (S : Sub vs bs st) (h : selF tab vs bs d T x (evOf vs y) = some R) (hC : ∀ c ∈ R.C, c) (hd : Nat.blt d n = true) :
    Step P E kp n ops ⟨some d, .indexAddr T x y, ty, ps, af, none⟩ st.as (R.app st).as := by
  unfold selF at h
  split at h
  · next cells m R' hR =>
    split at h
    · next s _ _ _ _ _ _ hti =>
      cases hb : Nat.beq cells.length (m * s) with
      | false => rw [hb] at h; cases h
      | true =>
        rw [hb] at h
        simp only [cond_true] at h
        split at h
        · next fs hfs =>
          split at h
          · next C z hz =>
            cases h
            have hC1 : ∀ c ∈ R'.C, c := fun c hc => hC c (List.mem_append_left _ hc)
            have hC2 : ∀ c ∈ C, c := fun c hc => hC c (List.mem_append_right _ hc)
            obtain ⟨k1, k2, k3⟩ := frz_ok (E := E) (kp := kp) (n := n) S hR hC1
            have e : (EV.lz m s (fun i j => selFn fs i j)).av = (EV.sl cells m).av := by
              show AV.p (.sl (lzC m s _) m) = AV.p (.sl (pvL cells) m)
              rw [lz_of (nat_eq hb) (fun j hj i hi => homC_ok hfs j hj i hi)]
            refine (idxF_ok (st := (R'.app st).as) (v := evOf vs y) hP hz hC2 hd (by rw [e]; exact k2) ?_).pre k1
            have hi : (asInt (evOf vs y)).isSome = true := by
              unfold idxF at hz
              split at hz
              · cases hz
              · next p q hq => rw [hq]; rfl
            rw [k3 y (fun r q e => by rw [e] at hi; cases hi)]
            exact S.v y
          · cases h
        · cases h
    · cases h
  · cases h
end
end Go.Proofs.YtcebndkiagbddaaGreatDoor

/- Parts of own rows: cut and wiped, by computation. It names no function of the program. -/
namespace Go.Proofs.YtcebndkiagbddaaGreatDoor
open Go.RowKit
set_option linter.unusedVariables false
set_option linter.unusedSimpArgs false

/-- A row of the call's own, cut; it stays the call's own. -/
def ocutF (tab : TT) (vs : List (Nat × EV)) (bs : List (Nat × EB)) (d : Nat) (T : TypeId) (x : Operand) (lo hi mx : Option Operand) : Option RS :=
  match tab.find T with
  | some ⟨.sl _ s _ _, _, _, _, _⟩ => match evOf vs x with
    | .osl r m => match mx with
      | none => match lo, hi with
        | some l, none => match asI64 (evOf vs l) with
          | some i => some ⟨[0 ≤ i ∧ i ≤ (m : Int)], [(d, .oss r i.toNat (m - i.toNat) s)], []⟩
          | none => none
        | none, some h => match asI64 (evOf vs h), ob_ bs r with
          | some j, .rz k sz f t pub => bif Nat.beq sz s && Nat.beq pub 0 then some ⟨[0 ≤ j ∧ j ≤ (m : Int), j ≤ (k : Int)], [(d, .osl r j.toNat)], [(r, .rz j.toNat sz f t 0)]⟩ else none
          | _, _ => none
        | _, _ => none
      | _ => none
    | _ => none
  | _ => none
/-- A part of a row of the call's own, wiped: what stands ahead of it is kept. -/
def oclrF (tab : TT) (vs : List (Nat × EV)) (bs : List (Nat × EB)) (c : Call) : Option RS :=
  match c.callee with
  | .builtin .clear => match c.args.toList, c.argTypes.toList with
    | [x], [T] => match tab.find T with
      | some ⟨.sl _ s _ _, _, _, _, _⟩ => match evOf vs x with
        | .oss r i m s' => match ob_ bs r with
          | .rz k sz f t pub => bif Nat.beq sz s && Nat.beq s' s && Nat.beq pub 0 then some ⟨[i + m ≤ k], [], [(r, .rz i sz f t 0)]⟩ else none
          | _ => none
        | _ => none
      | _ => none
    | _, _ => none
  | _ => none
theorem lzC_take {n sz k : Nat} (f : Nat → Nat → EV) (h : k ≤ n) : (lzC n sz f).take (k * sz) = lzC k sz f := by
  obtain ⟨q, rfl⟩ : ∃ q, n = k + q := ⟨n - k, by omega⟩
  rw [lzC_add, List.take_append, lz_len, Nat.sub_self, List.take_zero, List.append_nil, List.take_of_length_le (by rw [lz_len]; exact Nat.le_refl _)]
theorem putL_take0 {α : Type} : ∀ (xs : List α) (o : Nat) (l : List α), (putL l o xs).take o = l.take o
  | [], _, _ => rfl
  | x :: xs, o, l => by
    show (putL (l.set o x) (o + 1) xs).take o = _
    have h := putL_take0 xs (o + 1) (l.set o x)
    have h2 := congrArg (List.take o) h
    rw [List.take_take, List.take_take, Nat.min_eq_left (by omega)] at h2
    rw [h2, List.take_set_of_le (Nat.le_refl _)]
section
variable {P : Program} {E : Env} {kp : List Nat} {n : Nat} {ops : Array Oper} {tab : TT} {st : ES} {d : Nat} {ty : TypeId} {ps : String} {af : Array Edge} {vs : List (Nat × EV)} {bs : List (Nat × EB)}
theorem ocutF_ok {T : TypeId} {x : Operand} {lo hi mx : Option Operand} {R : RS} (hP : tab.ok P) (S : Sub vs bs st) (h : ocutF tab vs bs d T x lo hi mx = some R) (hC : ∀ c ∈ R.C, c) (hd : Nat.blt d n = true) :
    Step P E kp n ops ⟨some d, .slice T x lo hi mx, ty, ps, af, none⟩ st.as (R.app st).as := by
  unfold ocutF at h
  split at h
  · next e s b z ag sz ze ks hti =>
    obtain ⟨_, hsl, _⟩ := (TT.find_ok hP hti).sl _ _ _ _ rfl
    split at h
    · next r m hx =>
      have hx' : Gv (st.as.ev x) (.osl r m) := by have := S.v x; rw [hx] at this; exact this
      split at h
      · split at h
        · next l =>
          split at h
          · next i hi =>
            cases h
            have c1 := hC (0 ≤ i ∧ i ≤ (m : Int)) (by simp)
            exact S_cutLo hx' hsl ((S.v l).trans (asI64_gv hi)) c1.1 c1.2 hd
          · cases h
        · next hh =>
          split at h
          · next j k sz' f t pub hj hb =>
            cases hq : Nat.beq sz' s && Nat.beq pub 0 with
            | false => rw [hq] at h; cases h
            | true =>
              rw [hq] at h; cases h
              rw [Bool.and_eq_true] at hq
              have q1 := nat_eq hq.1; have q2 := nat_eq hq.2
              subst q1 q2
              have c1 := hC (0 ≤ j ∧ j ≤ (m : Int)) (by simp)
              have c2 := hC (j ≤ (k : Int)) (by simp)
              have hl := S.ob hb (by simp)
              have key := S_cutHi (P := P) (E := E) (kp := kp) (n := n) (ops := ops) (ty := ty) (ps := ps) (af := af) (d := d) hx' hl hsl ((S.v hh).trans (asI64_gv hj)) c1.1 c1.2 (Nat.zero_le _) hd
              rw [lzC_take f (by omega)] at key
              exact key
          · cases h
        · cases h
      · cases h
    · cases h
  · cases h
theorem oclrF_ok {c : Call} {R : RS} (hP : tab.ok P) (S : Sub vs bs st) (h : oclrF tab vs bs c = some R) (hC : ∀ c ∈ R.C, c) :
    Step P E kp n ops ⟨none, .call c, ty, ps, af, none⟩ st.as (R.app st).as := by
  obtain ⟨cl, args, ats⟩ := c
  unfold oclrF at h
  simp only at h
  split at h
  · split at h
    · next x T hxs hTs =>
      have e1 := arr1 hxs; have e2 := arr1 hTs
      subst e1 e2
      split at h
      · next e s b z ag sz ze ks hti =>
        obtain ⟨_, _, hap, hs0, hz⟩ := (TT.find_ok hP hti).sl _ _ _ _ rfl
        split at h
        · next r i m s' hx =>
          have hx' : Gv (st.as.ev x) (.oss r i m s') := by have := S.v x; rw [hx] at this; exact this
          split at h
          · next k sz' f t pub hb =>
            cases hq : Nat.beq sz' s && Nat.beq s' s && Nat.beq pub 0 with
            | false => rw [hq] at h; cases h
            | true =>
              rw [hq] at h; cases h
              simp only [Bool.and_eq_true] at hq
              have q1 := nat_eq hq.1.1; have q2 := nat_eq hq.1.2; have q3 := nat_eq hq.2
              subst q1 q2 q3
              have c1 := hC (i + m ≤ k) (by simp)
              have hl := S.ob hb (by simp)
              have key := S_clear (P := P) (E := E) (kp := kp) (n := n) (ops := ops) (ty := ty) (ps := ps) (af := af) hx' hl hap hs0 hz (Nat.zero_le _) (by rw [lz_len]; exact Nat.mul_le_mul_right _ c1)
              refine key.wk ?_
              have hl2 : (st.as.set r (.row (putL (lzC k s' f) (i * s') (zerosP z m)) t s' 0)).ob r = .row (putL (lzC k s' f) (i * s') (zerosP z m)) t s' 0 := by
                show look OB.dead (_ :: _) r = _
                rw [look_cons, if_pos rfl]
              have w := wk_trunc (E := E) (kp := kp) (n := n) r (i * s') hl2 (Nat.zero_le _)
              rw [putL_take0, lzC_take f (by omega)] at w
              refine w.trans fun a w hs => ?_
              refine Sat.congr (st := ⟨st.as.slots, (r, .row (lzC i s' f) t s' 0) :: (r, .row (putL (lzC k s' f) (i * s') (zerosP z m)) t s' 0) :: st.as.heap⟩) (fun s => rfl) (fun q => ?_) hs
              show look OB.dead ((r, OB.row (lzC i s' f) t s' 0) :: st.as.heap) q = look OB.dead ((r, _) :: (r, _) :: st.as.heap) q
              rw [look_cons, look_cons, look_cons]
              split <;> rfl
          · cases h
        · cases h
      · cases h
    · cases h
  · cases h
end
end Go.Proofs.YtcebndkiagbddaaGreatDoor

/- The walk by computation: what is to be shown of a function's code. It names no function of the program. -/
namespace Go.Proofs.YtcebndkiagbddaaGreatDoor
open Go.RowKit
set_option linter.unusedVariables false
set_option linter.unusedSimpArgs false

/-- One thing to be shown, and the rest. -/
structure Ob (c rest : Prop) : Prop where
  l : c
  r : rest
def obA : List Prop → Prop → Prop
  | [], K => K
  | c :: cs, K => Ob c (obA cs K)
theorem obA_ok : ∀ {C : List Prop} {K : Prop}, obA C K → (∀ c ∈ C, c) ∧ K
  | [], K, h => ⟨by simp, h⟩
  | c :: cs, K, h => by
    obtain ⟨h1, h2⟩ := h
    obtain ⟨h3, h4⟩ := obA_ok h2
    refine ⟨fun x hx => ?_, h4⟩
    rcases List.mem_cons.1 hx with rfl | hx
    · exact h1
    · exact h3 x hx
/-- Under a condition. -/
def impP (q : Prop) : List Prop → List Prop
  | [] => []
  | c :: cs => (q → c) :: impP q cs
theorem impP_ok {q : Prop} (hq : q) : ∀ {C : List Prop}, (∀ c ∈ impP q C, c) → ∀ c ∈ C, c
  | [], _, c, hc => by cases hc
  | x :: cs, h, c, hc => by
    rcases List.mem_cons.1 hc with rfl | hc
    · exact h _ (List.mem_cons_self ..) hq
    · exact impP_ok hq (fun y hy => h y (List.mem_cons_of_mem _ hy)) c hc
/-- Hints: the places of operations that come round; of those that are shown by hand. -/
structure Hi where
  wr : List Nat := []
  man : List Nat := []
  own : List (Nat × Nat) := []
  sel : List Nat := []
  fz : List Nat := []
  fk : List Nat := []
  nl : List (Nat × Nat × Nat) := []
  cut : List Nat := []
  nb : List (Nat × Nat × Nat × Nat) := []
  fo : List Nat := []
  cu : List Nat := []
  bo : List Nat := []
  rk : List (Nat × TypeId × Nat × List Nat) := []
  nr : List (Nat × Nat × Nat) := []
  nz : List (Nat × Nat × EV) := []

def stripV : List (Nat × EV) → List (Nat × EV)
  | [] => []
  | (s, x) :: l => (s, match x with | .cnd _ y => y | y => y) :: stripV l
def stripC : List (Nat × EV) → List Prop
  | [] => []
  | (s, x) :: l => match x with
    | .cnd g _ => (g = true) :: stripC l
    | _ => stripC l
def opnds : List Operand → List Nat
  | [] => []
  | .tmp t :: l => t :: opnds l
  | _ :: l => opnds l
def pkV (vs : List (Nat × EV)) : List Nat → List (Nat × EV)
  | [] => []
  | s :: l => (s, look .any vs s) :: pkV vs l
def guardB (ops : Array Oper) (vs : List (Nat × EV)) (j : Nat) (want : Bool) : Option Bool :=
  match (ops[j]?).bind (·.dst) with
  | some gs => match look .any vs gs with
    | .v (.bool g) => some (g == want)
    | .cnd g (.v (.bool q)) => some (g && (q == want))
    | _ => none
  | none => none
def cndB : EV → Option (List Prop × Bool)
  | .v (.bool g) => some ([], g)
  | .cnd k (.v (.bool g)) => some ([k = true], g)
  | .cnd _ .any => some ([False], false)
  | _ => none
/-- 'c && x', 'c || x', as the translation has them. -/
def pickF (vs : List (Nat × EV)) (c a b : Operand) : Option (List Prop × EV) :=
  match cndB (evOf vs c) with
  | none => none
  | some (C, g) => match a with
    | .const (.bool true) => match cndB (evOf vs b) with
      | some (C', q) => some (C ++ impP (g = false) C', .b (g || q))
      | none => none
    | a => match b with
      | .const (.bool false) => match cndB (evOf vs a) with
        | some (C', q) => some (C ++ impP (g = true) C', .b (g && q))
        | none => none
      | _ => none
def ownOf (d : Nat) : List (Nat × Nat) → Option Nat
  | [] => none
  | p :: l => bif Nat.beq p.1 d then some p.2 else ownOf d l
/-- The nil slice again into a place that has it: an empty row of the call's own. -/
def ownF (d T : Nat) (old : EV) (y : EV) : Option RS :=
  match y with
  | .v (.slice none 0 0) => match old with
    | .v (.slice none 0 0) => some ⟨[], [(d, .osl (nmB d) 0)], [(nmB d, .rb [] T 0)]⟩
    | _ => some ⟨[], [(d, y)], []⟩
  | y => some ⟨[], [(d, y)], []⟩
def nlOf (d : Nat) : List (Nat × Nat × Nat) → Option (Nat × Nat)
  | [] => none
  | p :: l => bif Nat.beq p.1 d then some p.2 else nlOf d l
/-- The nil slice into a place: an empty row of the call's own. -/
def nlB (T sz : Nat) : EB := bif Nat.blt sz 1000 then .rz 0 sz (fun _ _ => .any) T 0 else .row [] T (sz - 1000) 0
theorem nlB_ob (T sz : Nat) : ∃ s, (nlB T sz).ob = .row [] T s 0 := by
  unfold nlB
  cases Nat.blt sz 1000 with
  | true => exact ⟨sz, rfl⟩
  | false => exact ⟨sz - 1000, rfl⟩
def nlF (d T sz : Nat) (y : EV) : Option RS :=
  match y with
  | .v (.slice none 0 0) => some ⟨[], [(d, .osl (nmB d) 0)], [(nmB d, nlB T sz)]⟩
  | y => some ⟨[], [(d, y)], []⟩
def nmQ (r : Nat) : Nat := 700000 + r
def nbOf (r : Nat) : List (Nat × Nat × Nat × Nat) → Option (Nat × Nat × Nat)
  | [] => none
  | p :: l => bif Nat.beq p.1 r then some p.2 else nbOf r l
/-- A variable that is written: the nil slice in one of its cells is an empty row of the call's own. -/
def nzOf (d : Nat) : List (Nat × Nat × EV) → Option (Nat × EV)
  | [] => none
  | p :: l => bif Nat.beq p.1 d then some p.2 else nzOf d l
/-- A nil slice, read as an empty one that is told by a function. -/
def nzV (x e : EV) : EV := match x with
  | .v (.slice none 0 0) => match e with
    | .lz 0 sz f => .lz 0 sz f
    | _ => x
  | _ => x
def nzS (nz : List (Nat × Nat × EV)) (x : Operand) (v : EV) : EV := match nz with
  | [] => v
  | _ :: _ => match x with
    | .tmp t => match nzOf t nz with
      | some (_, e) => nzV v e
      | none => v
    | _ => v
def nzL : Nat → EV → List EV → List EV
  | _, _, [] => []
  | 0, e, x :: xs => nzV x e :: xs
  | k + 1, e, x :: xs => x :: nzL k e xs
def nzF (nz : List (Nat × Nat × EV)) (d : Nat) (R : Option RS) : Option RS := match nz with
  | [] => R
  | _ :: _ => match nzOf d nz with
    | none => R
    | some (k, e) => match R with
      | some ⟨C, [(d', .agg l)], hp⟩ => some ⟨C, [(d', .agg (nzL k e l))], hp⟩
      | _ => R
def rkOf (d : Nat) : List (Nat × TypeId × Nat × List Nat) → Option (TypeId × Nat × List Nat)
  | [] => none
  | p :: l => bif Nat.beq p.1 d then some p.2 else rkOf d l
/-- Empty rows under new names. -/
def rkL (bs : List (Nat × EB)) (T : TypeId) (sz : Nat) : List Nat → RS → Option RS
  | [], R => some R
  | q :: qs, R => bif (ob_ bs q).alive || hasK q R.hp || hHas q (obs R.hp) || sHas q (avs R.sl) then none else rkL bs T sz qs ⟨R.C, R.sl, (q, .rz 0 sz (fun _ _ => .any) T 0) :: R.hp⟩
def rkF (rk : List (Nat × TypeId × Nat × List Nat)) (bs : List (Nat × EB)) (d : Nat) (R : Option RS) : Option RS :=
  match rk with
  | [] => R
  | _ :: _ => match rkOf d rk with
    | none => R
    | some (T, sz, ns) => match R with
      | some R => rkL bs T sz ns R
      | none => none
def nbF (nb : List (Nat × Nat × Nat × Nat)) (bs : List (Nat × EB)) (R : Option RS) : Option RS :=
  match nb with
  | [] => R
  | _ :: _ => match R with
    | some ⟨C, [], [(r, .box cells t)]⟩ => match nbOf r nb with
      | some (i, T, sz) => match nthE i cells with
        | some (.v (.slice none 0 0)) => bif (ob_ bs (nmQ r)).alive || hasL (nmQ r) (avL cells) || Nat.beq (nmQ r) r then none else some ⟨C, [], [(r, .box (cells.set i (.osl (nmQ r) 0)) t), (nmQ r, .rz 0 sz (fun _ _ => .any) T 0)]⟩
        | _ => R
      | none => R
    | _ => R
/-- The nil slices that are to be empty rows: at any assignment (nl), or at one that is not the first (nr). -/
def nlx (H : Hi) (vs : List (Nat × EV)) (d : Nat) : Option (Nat × Nat) := match nlOf d H.nl with
  | some p => some p
  | none => match nlOf d H.nr with
    | some p => match look .any vs d with
      | .any => none
      | _ => some p
    | none => none
/-- A slice of the call's own, given on as shared. -/
def fzF (vs : List (Nat × EV)) (bs : List (Nat × EB)) (d : Nat) (x : Operand) : Option RS :=
  match frz vs bs x with
  | some (y, R) => some ⟨R.C, (d, y) :: R.sl, R.hp⟩
  | none => none
/-- A slice of the call's own, given on as shared; it stays the call's own besides. -/
def fkF (vs : List (Nat × EV)) (bs : List (Nat × EB)) (d : Nat) (x : Operand) : Option RS :=
  match dfE bs 12 (evOf vs x) with
  | some (C, y, F) => bif ndB bs F then some ⟨C, [(d, y)], F⟩ else none
  | none => none
/-- What is loaded, given on as shared. -/
def lkF (tab : TT) (vs : List (Nat × EV)) (bs : List (Nat × EB)) (d : Nat) (wr : Bool) (ty T : TypeId) (x : Operand) : Option RS :=
  match opF tab vs bs d wr ty (.load T x) with
  | some ⟨C, [(d', v)], []⟩ => bif Nat.beq d' d then (match dfE bs 12 v with
    | some (C', y, F) => bif ndB bs F then some ⟨C ++ C', [(d, y)], F⟩ else none
    | none => none) else none
  | _ => none
/-- An array variable of the call's own, sliced whole and given on as shared. -/
def skF (tab : TT) (vs : List (Nat × EV)) (bs : List (Nat × EB)) (d : Nat) (T : TypeId) (x : Operand) : Option RS :=
  match tab.find T with
  | some ⟨.ar n _ _, _, _, _, _⟩ => match dfE bs 12 (evOf vs x) with
    | some (C, .pp cs 0, F) => bif ndB bs F && Nat.ble n 1000000000 then some ⟨C, [(d, .sl cs n)], F⟩ else none
    | _ => none
  | _ => none
/-- A slice of the call's own moved under a condition, given on as shared. -/
def gmvF (fk : List Nat) (vs : List (Nat × EV)) (bs : List (Nat × EB)) (d : Nat) (c : Bool) (o : Op) : Option RS :=
  match o with
  | .move (.tmp tx) => bif memN d fk then (match look .any vs tx with
    | .osl r m => match dfE bs 12 (.osl r m) with
      | some (C, y, F) => bif ndB bs F && !Nat.beq d tx then some ⟨C, [(d, .cnd c y), (tx, y)], F⟩ else none
      | none => none
    | _ => none) else none
  | _ => none
/-- Cells, each computed before it is put anywhere. -/
def fcL {α : Type} : List EV → (List EV → α) → α
  | [], k => k []
  | x :: xs, k => EV.fc (fun y => fcL xs fun ys => k (y :: ys)) x
theorem fcL_eq {α : Type} : ∀ (l : List EV) (k : List EV → α), fcL l k = k l
  | [], k => rfl
  | x :: xs, k => by
    unfold fcL
    rw [EV.fc_eq, fcL_eq xs]
def foF (R : Option RS) : Option RS :=
  match R with
  | some ⟨C, [(d, .agg l)], F⟩ => fcL l fun l' => some ⟨C, [(d, .agg l')], F⟩
  | R => R
theorem foF_eq (R : Option RS) : foF R = R := by
  unfold foF
  split
  · rw [fcL_eq]
  · rfl
def mapF (tab : TT) (vs : List (Nat × EV)) (bs : List (Nat × EB)) (d : Nat) (o : Op) : Option RS := none
def updF (tab : TT) (bs : List (Nat × EB)) (T : TypeId) (m x y : EV) : Option RS := none
def nextF (vs : List (Nat × EV)) (bs : List (Nat × EB)) (o : Oper) : Option (Nat × Nat × Nat × Nat × List Nat × Nat × NetMap) := none
/-- A function made of one and what it catches. -/
def mkfF (vs : List (Nat × EV)) (bs : List (Nat × EB)) (d : Nat) (fn : Fn) (first captured : List Operand) : Option RS :=
  match fn with
  | .func f => match first with
    | [] => match dfL (dfE bs 12) (argE vs captured) with
      | some (C, cs, F) => bif shL cs && ndB bs F then some ⟨C, [(d, .fn f cs)], F⟩ else none
      | none => none
    | _ => none
  | _ => none
section
variable (tab : TT) (H : Hi) (ops : Array Oper) (vs : List (Nat × EV)) (bs : List (Nat × EB))
def plainF (d : Nat) (ty : TypeId) (vs : List (Nat × EV)) (o : Op) : Option RS :=
  match o with
  | .pick c a b => match pickF vs c a b with
    | some (C, x) => some ⟨C, [(d, x)], []⟩
    | none => none
  | .assign x => match ownOf d H.own with
    | some T => ownF d T (look .any vs d) (evOf vs x)
    | none => match nlx H vs d with
     | some (T, sz) => nlF d T sz (evOf vs x)
     | none => bif memN d H.fz then fzF vs bs d x else opF tab vs bs d (memN d H.wr) ty (.assign x)
  | .move x => bif memN d H.fk then fkF vs bs d x else bif memN d H.fz then fzF vs bs d x else opF tab vs bs d (memN d H.wr) ty (.move x)
  | .build T ps => bif memN d H.fo then foF (opF tab vs bs d (memN d H.wr) ty (.build T ps)) else opF tab vs bs d (memN d H.wr) ty (.build T ps)
  | .load T x => bif memN d H.fk then lkF tab vs bs d (memN d H.wr) ty T x else opF tab vs bs d (memN d H.wr) ty (.load T x)
  | .indexAddr T x y => bif memN d H.sel then selF tab vs bs d T x (evOf vs y) else opF tab vs bs d (memN d H.wr) ty (.indexAddr T x y)
  | .slice T x lo hi mx => bif memN d H.cut then ocutF tab vs bs d T x lo hi mx else bif memN d H.fk && lo.isNone && hi.isNone && mx.isNone then skF tab vs bs d T x else opF tab vs bs d (memN d H.wr) ty (.slice T x lo hi mx)
  | .makeFunc fn first captured => mkfF vs bs d fn first.toList captured.toList
  | .makeMap T r => mapF tab vs bs d (.makeMap T r)
  | .lookup T x y ok => mapF tab vs bs d (.lookup T x y ok)
  | .range T x => mapF tab vs bs d (.range T x)
  | .entry x => mapF tab vs bs d (.entry x)
  | o => opF tab vs bs d (memN d H.wr) ty o
/-- An operation's effect, but for calls of functions. -/
def stepF (o : Oper) : Option RS :=
  match o.dst with
  | none => match o.guard with
    | none => match o.op with
      | .store T x y => nbF H.nb bs (storeF tab bs T (evOf vs x) (nzS H.nz x (evOf vs y)))
      | .mapUpdate T m x y => updF tab bs T (evOf vs m) (evOf vs x) (evOf vs y)
      | .call c => oclrF tab vs bs c
      | _ => none
    | some _ => none
  | some d => bif (ob_ bs (nmB d)).alive || (ob_ bs (nmZ d)).alive then none else (match o.guard with
    | none => nzF H.nz d (rkF H.rk bs d (plainF tab H bs d o.type vs o.op))
    | some (j, want) => match guardB ops vs j want with
      | none => none
      | some c => match o.op with
        | .pick p a b => match pickF vs p a b with
          | some (C, x) => some ⟨impP (c = true) C, [(d, .cnd c x)], []⟩
          | none => none
        | op => match gmvF H.fk vs bs d c op with
          | some R => some R
          | none => match opF tab (stripV (pkV vs (opnds op.operands.toList))) bs d (memN d H.wr) o.type op with
            | some ⟨C, [(d', x)], []⟩ => bif Nat.beq d' d then some ⟨impP (c = true) (stripC (pkV vs (opnds op.operands.toList)) ++ C), [(d, .cnd c x)], []⟩ else none
            | _ => some ⟨[c = false], [(d, .cnd c .any)], []⟩)
end
def callOf (o : Oper) : Option (FuncId × List Operand) :=
  match o.op with
  | .call c => match c.callee with
    | .value (.func f) => some (f, c.args.toList)
    | _ => none
  | _ => none
def stripE : EV → EV
  | .cnd _ y => y
  | y => y
/-- A function without captures that stands in a slot and is called under a condition. -/
def callG (vs : List (Nat × EV)) (o : Oper) : Option (FuncId × List Operand) :=
  match o.op, o.guard with
  | .call ⟨.value (.tmp t), args, _⟩, some _ => match stripE (look .any vs t) with
    | .fn f [] => some (f, args.toList)
    | .v (.func (.func f) ⟨[]⟩ ⟨[]⟩) => some (f, args.toList)
    | _ => none
  | _, _ => none
/-- A function that is called by its name, or one that stands in a slot. -/
def callE (vs : List (Nat × EV)) (o : Oper) : Option (FuncId × List Operand × Option (List EV)) :=
  match callOf o with
  | some (f, args) => some (f, args, none)
  | none => match callG vs o with
    | some (f, args) => some (f, args, none)
    | none => match callV vs o with
      | some (f, args, ce) => some (f, args, some ce)
      | none => none
/-- What a function has caught. -/
def ceL : Option (List EV) → List EV
  | some l => l
  | none => []
/-- A slice against nil. -/
def nilF (tab : TT) (vs : List (Nat × EV)) (o : Oper) : Option (Nat × Nat) :=
  match o.op with
  | .binOp .eql T x y _ => match o.dst, o.guard with
    | some d, none => match tab.find T with
      | some ⟨.sl _ _ _ _, _, _, _, _⟩ => match evOf vs y with
        | .v (.slice none 0 0) => match evOf vs x with
          | .bs l => some (d, l.length)
          | .lz n _ _ => some (d, n)
          | .sl _ n => some (d, n)
          | _ => none
        | _ => none
      | _ => none
    | _, _ => none
  | _ => none
def frOk (bs : List (Nat × EB)) (st : ES) (kp : List Nat) : List (Nat × EB) → Bool
  | [] => true
  | p :: l => ((ob_ bs p.1).alive || st.free kp p.1) && frOk bs st kp l
theorem frOk_ok {bs : List (Nat × EB)} {st : ES} {kp : List Nat} : ∀ {l : List (Nat × EB)}, frOk bs st kp l = true → ∀ p ∈ l, (ob_ bs p.1).alive = true ∨ st.free kp p.1 = true
  | [], _, p, hp => by cases hp
  | q :: l, h, p, hp => by
    simp only [frOk, Bool.and_eq_true, Bool.or_eq_true] at h
    rcases List.mem_cons.1 hp with rfl | hp
    · exact h.1
    · exact frOk_ok h.2 p hp
/-- A contract, of a function that may be called by its number. -/
def Cf (P : Program) (f : FuncId) (hin : List (Nat × EB)) (as : List EV) (hout : List (Nat × EB)) (res : EV) : Prop := callable P f = true ∧ Ct P f hin as hout res
def isSome' : Option Nat → Nat → Bool
  | none, _ => true
  | some d, n => Nat.blt d n
/-- A call; one whose result stands in 'bo' only reads. -/
def callB (bo : List Nat) (vs : List (Nat × EV)) (bs : List (Nat × EB)) (dst : Option Nat) (args : List Operand) (ce : List EV) (hin : List (Nat × EB)) (as : List EV) (hout : List (Nat × EB)) (res : EV) : Option RS :=
  match dst with
  | some d => bif memN d bo then (match hin with
    | [] => match hout with
      | [] => match borF vs bs args ce as res with
        | some C => some ⟨C, [(d, res)], []⟩
        | none => none
      | _ :: _ => callF vs bs (some d) args ce hin as hout res
    | _ :: _ => none) else callF vs bs (some d) args ce hin as hout res
  | none => callF vs bs none args ce hin as hout res
/-- A call under a condition. -/
def gfitF (bo : Bool) (vs0 : List (Nat × EV)) (bs : List (Nat × EB)) (args : List Operand) (as : List EV) (res : EV) : Option (List Prop) :=
  bif bo then borF vs0 bs args [] as res else (match fitL [] (argE vs0 args) as with
    | some (C, []) => bif res.av.inH [] && inDL [] (avL as) && res.av.inD [] then some C else none
    | _ => none)
section
variable (P : Program) (kp : List Nat) (n : Nat) (tab : TT) (H : Hi) (ops : Array Oper)
def goR (sl : List (Nat × EV)) (hp : List (Nat × EB)) (K : ES → Prop) : Option RS → Prop
  | some ⟨C, rs, rh⟩ => bif frOk hp ⟨sl, hp⟩ kp rh then obA C (appK (fun s => appK (fun h => K ⟨s, h⟩) hp rh) sl rs) else False
  | none => False
/-- A region in order. -/
def runO : List Oper → ES → (ES → Prop) → Prop
  | [], st, K => K st
  | o :: os, ⟨sl, hp⟩, K => bif isSome' o.dst n then (match callE sl o with
    | some (f, args, ce) => match o.guard with
      | none => ∃ hin as hout res, Cf P f hin as hout res ∧ goR kp sl hp (fun st' => runO os st' K) (callB H.bo sl hp o.dst args (ceL ce) hin as hout res)
      | some (j, want) => match ce, o.dst, guardB ops sl j want with
        | none, some d, some c => ∃ as res, (match gfitF (memN d H.bo) (stripV (pkV sl (opnds args))) hp args as res with
          | some C => ((c = true → Cf P f [] as [] res) ∧ obA (impP (c = true) (stripC (pkV sl (opnds o.op.operands.toList)) ++ C)) (runO os ⟨(d, .cnd c res) :: sl, hp⟩ K))
          | none => False)
        | _, _, _ => False
    | none => match nextF sl hp o with
     | some (d, r, q, since, s, last, es) => Ob (since = es.length ∧ last = es.length) ((∀ i : Nat, i < es.length → ¬ i ∈ s → runO os ⟨(d, .tup [.b true, .any, .any]) :: sl, (r, .it q since (i :: s) last) :: hp⟩ K) ∧ ((∀ i : Nat, i < es.length → i ∈ s) → runO os ⟨(d, .tup [.b false]) :: sl, hp⟩ K))
     | none => match nilF tab sl o with
      | some (d, m) => ∀ g : Bool, (g = true → m = 0) → runO os ⟨(d, .b g) :: sl, hp⟩ K
      | none => match o.dst with
        | some d => bif memN d H.man then (∃ st' : ES, (∀ E, Step P E kp n ops o (ES.as ⟨sl, hp⟩) st'.as) ∧ runO os st' K) else goR kp sl hp (fun st' => runO os st' K) (stepF tab H ops sl hp o)
        | none => goR kp sl hp (fun st' => runO os st' K) (stepF tab H ops sl hp o)) else False
end

section
variable {P : Program} {E : Env} {kp : List Nat} {n : Nat} {ops : Array Oper} {tab : TT} {H : Hi} {st : ES}
theorem Sub.full (st : ES) : Sub st.slots st.heap st := ⟨fun _ => .inr rfl, fun _ => .inr rfl⟩
/-- Under the conditions of some slots they are what stands under them. -/
theorem strip_gv {l : List Nat} (hC : ∀ c ∈ stripC (pkV st.slots l), c) (t : Nat) :
    Gv (look AV.any st.as.slots t) (look EV.any (stripV (pkV st.slots l) ++ st.slots) t).av ∧ Gv (look EV.any (stripV (pkV st.slots l) ++ st.slots) t).av (look AV.any st.as.slots t) := by
  have e0 : look AV.any st.as.slots t = (look EV.any st.slots t).av := look_avs _ _
  rw [e0]
  have key : ∀ (m : List (Nat × EV)), (∀ c ∈ stripC m, c) → (∀ s x, (s, x) ∈ m → x = look .any st.slots s) →
      Gv (look EV.any st.slots t).av (look EV.any (stripV m ++ st.slots) t).av ∧ Gv (look EV.any (stripV m ++ st.slots) t).av (look EV.any st.slots t).av := by
    intro m
    induction m with
    | nil => intro _ _; exact ⟨Gv.r, Gv.r⟩
    | cons p m ih =>
      obtain ⟨s, x⟩ := p
      intro hC hm
      have hC' : ∀ c ∈ stripC m, c := fun c hc => hC c (by
        simp only [stripC]
        split
        · exact List.mem_cons_of_mem _ hc
        · exact hc)
      simp only [stripV, List.cons_append, look_cons]
      split
      · next e =>
        subst e
        have hx := hm s x (by simp)
        rw [← hx]
        cases x with
        | cnd g y =>
          have hg : g = true := hC (g = true) (by simp [stripC])
          subst hg
          refine ⟨Gv.c rfl Gv.r, fun w Pub φ u k => ?_⟩
          unfold EV.av RA
          exact ⟨fun _ => k, fun h => by cases h⟩
        | _ => exact ⟨Gv.r, Gv.r⟩
      · exact ih hC' fun s' x' h' => hm s' x' (List.mem_cons_of_mem _ h')
  refine key _ hC fun s x hm => ?_
  have : ∀ (l : List Nat), (s, x) ∈ pkV st.slots l → x = look .any st.slots s := by
    intro l
    induction l with
    | nil => intro h; cases h
    | cons a l ih =>
      intro h
      simp only [pkV, List.mem_cons] at h
      rcases h with h | h
      · cases h; rfl
      · exact ih h
  exact this l hm
theorem wk_gv {sl sl' : List (Nat × AV)} {h : List (Nat × OB)} (hs : ∀ t, Gv (look AV.any sl t) (look AV.any sl' t)) : Wk E kp n ⟨sl, h⟩ ⟨sl', h⟩ := by
  rintro a w ⟨φ, Pub, I, h0, hn, hsl⟩
  exact ⟨φ, Pub, I, h0, hn, fun s => hs s _ _ _ _ (hsl s)⟩
theorem strip_sub {l : List Nat} {bs : List (Nat × EB)} (hb : ∀ r, ob_ bs r = .dead ∨ st.eb r = ob_ bs r) : Sub (stripV (pkV st.slots l)) bs ⟨stripV (pkV st.slots l) ++ st.slots, st.heap⟩ := by
  refine ⟨fun x => ?_, hb⟩
  cases x with
  | tmp t =>
    show look EV.any (stripV (pkV st.slots l)) t = .any ∨ look EV.any (stripV (pkV st.slots l) ++ st.slots) t = look EV.any (stripV (pkV st.slots l)) t
    rw [look_app]
    cases hk : hasK t (stripV (pkV st.slots l)) with
    | true => rw [if_pos rfl]; exact .inr rfl
    | false =>
      refine .inl ?_
      have : ∀ (m : List (Nat × EV)), hasK t m = false → look EV.any m t = .any := by
        intro m
        induction m with
        | nil => intro _; rfl
        | cons p m ih =>
          intro h
          simp only [hasK, Bool.or_eq_false_iff] at h
          rw [look_cons, if_neg (fun e => by rw [e] at h; simp at h)]
          exact ih h.2
      exact this _ hk
  | _ => exact .inr rfl
/-- An operation under a guard. -/
theorem guard_ok {o : Op} {d j : Nat} {want c : Bool} {x : EV} {ty : TypeId} {ps : String} {af : Array Edge} (hg : guardB ops st.slots j want = some c) (hd : Nat.blt d n = true)
    (h : c = true → Step P E kp n ops ⟨some d, o, ty, ps, af, none⟩ st.as (st.as.put d x.av)) : Step P E kp n ops ⟨some d, o, ty, ps, af, some (j, want)⟩ st.as (st.as.put d (EV.cnd c x).av) := by
  unfold guardB at hg
  split at hg
  · next gs hj =>
    split at hg
    · next g hv =>
      cases hg
      refine S_guard hj ?_ hd h
      rw [as_ev]; show (look EV.any st.slots gs).av = _; rw [hv]; rfl
    · next g q hv =>
      cases hg
      refine S_guard2 hj ?_ hd h
      rw [as_ev]; show (look EV.any st.slots gs).av = _; rw [hv]; rfl
    · cases hg
  · cases hg
theorem cndB_gv {x : EV} {C : List Prop} {g : Bool} (h : cndB x = some (C, g)) (hC : ∀ c ∈ C, c) : Gv x.av (.p (.v (.bool g))) := by
  unfold cndB at h
  split at h
  · cases h; exact Gv.r
  · next k q => cases h; exact Gv.c (hC (k = true) (by simp)) Gv.r
  · cases h; exact (hC False (by simp)).elim
  · cases h
theorem guardB_sub {vs : List (Nat × EV)} {bs : List (Nat × EB)} {j : Nat} {want c : Bool} (S : Sub vs bs st) (h : guardB ops vs j want = some c) : guardB ops st.slots j want = some c := by
  unfold guardB at h ⊢
  split at h
  · next gs hj =>
    rcases S.e (.tmp gs) with k | k
    · have k : look EV.any vs gs = .any := k
      rw [k] at h; cases h
    · have k : look EV.any st.slots gs = look EV.any vs gs := k
      rw [← k] at h; exact h
  · cases h
theorem pkV_eq {vs ws : List (Nat × EV)} : ∀ {l : List Nat}, (∀ s ∈ l, look EV.any vs s = look EV.any ws s) → pkV vs l = pkV ws l
  | [], _ => rfl
  | s :: l, h => by
    unfold pkV
    rw [h s (by simp), pkV_eq (l := l) (fun x hx => h x (List.mem_cons_of_mem _ hx))]
theorem pickF_ok {c a b : Operand} {C : List Prop} {x : EV} {d : Nat} {ty : TypeId} {ps : String} {af : Array Edge} {vs : List (Nat × EV)} {bs : List (Nat × EB)} (S : Sub vs bs st) (h : pickF vs c a b = some (C, x)) (hC : ∀ c ∈ C, c) (hd : Nat.blt d n = true) :
    Step P E kp n ops ⟨some d, .pick c a b, ty, ps, af, none⟩ st.as (st.as.put d x.av) := by
  unfold pickF at h
  split at h
  · cases h
  · next C0 g hc =>
    split at h
    · split at h
      · next C1 q hq =>
        cases h
        have hC0 : ∀ c ∈ C0, c := fun c hc => hC c (List.mem_append_left _ hc)
        have h1 : g = false → ∀ c ∈ C1, c := fun hg => impP_ok hg (fun c hc => hC c (List.mem_append_right _ hc))
        exact S_or ((S.v c).trans (cndB_gv hc hC0)) (by rw [as_ev]; exact Gv.r) (fun hg => (S.v b).trans (cndB_gv hq (h1 hg))) hd
      · cases h
    · split at h
      · split at h
        · next C1 q hq =>
          cases h
          have hC0 : ∀ c ∈ C0, c := fun c hc => hC c (List.mem_append_left _ hc)
          have h1 : g = true → ∀ c ∈ C1, c := fun hg => impP_ok hg (fun c hc => hC c (List.mem_append_right _ hc))
          exact S_and ((S.v c).trans (cndB_gv hc hC0)) (by rw [as_ev]; exact Gv.r) (fun hg => (S.v a).trans (cndB_gv hq (h1 hg))) hd
        · cases h
      · cases h
theorem fzF_ok {d : Nat} {ty : TypeId} {o : Op} {x : Operand} {R : RS} {ps : String} {af : Array Edge} {vs : List (Nat × EV)} {bs : List (Nat × EB)} (ho : o = .move x ∨ o = .assign x) (S : Sub vs bs st) (h : fzF vs bs d x = some R) (hC : ∀ c ∈ R.C, c) (hd : Nat.blt d n = true) : Step P E kp n ops ⟨some d, o, ty, ps, af, none⟩ st.as (R.app st).as := by
  unfold fzF at h
  split at h
  · next y R' hR =>
    cases h
    obtain ⟨k1, k2, _⟩ := frz_ok (E := E) (kp := kp) (n := n) S hR hC
    exact (S_mv ho hd k2).pre k1
  · cases h
theorem fkF_ok {d : Nat} {ty : TypeId} {x : Operand} {R : RS} {ps : String} {af : Array Edge} {vs : List (Nat × EV)} {bs : List (Nat × EB)} (S : Sub vs bs st) (h : fkF vs bs d x = some R) (hC : ∀ c ∈ R.C, c) (hd : Nat.blt d n = true) : Step P E kp n ops ⟨some d, .move x, ty, ps, af, none⟩ st.as (R.app st).as := by
  unfold fkF at h
  split at h
  · next C y F hdf =>
    cases hb : ndB bs F with
    | false => rw [hb] at h; cases h
    | true =>
      rw [hb] at h
      simp only [cond_true] at h
      cases h
      refine Step.val rfl fun a w ⟨φ, Pub, I, h0, hn, hs⟩ => ?_
      obtain ⟨f1, Pub', I', H', hR⟩ := dfE_ok S 12 _ _ _ _ [] _ _ hdf hC (fun r e hm => by cases hm) (by rw [List.append_nil]; exact hb) I (S.v x _ _ _ _ (ev_R (h := st.as.heap) hs x))
      rw [List.append_nil] at I'
      exact ⟨a.eval x, w, rfl, Sat.put I' h0 hn (fun s => RA_mono H' _ _ (fun _ _ => rfl) (hs s)) hd hR⟩
  · cases h
theorem skF_ok {d : Nat} {ty T : TypeId} {x : Operand} {R : RS} {ps : String} {af : Array Edge} {vs : List (Nat × EV)} {bs : List (Nat × EB)} (hP : tab.ok P) (S : Sub vs bs st) (h : skF tab vs bs d T x = some R) (hC : ∀ c ∈ R.C, c) (hd : Nat.blt d n = true) : Step P E kp n ops ⟨some d, .slice T x none none none, ty, ps, af, none⟩ st.as (R.app st).as := by
  unfold skF at h
  split at h
  · next m es e _ _ _ _ hT =>
    obtain ⟨_, hu, hs⟩ := (TT.find_ok hP hT).ar _ _ _ rfl
    split at h
    · next C cs F hdf =>
      cases hb : ndB bs F && Nat.ble m 1000000000 with
      | false => rw [hb] at h; cases h
      | true =>
        rw [hb] at h
        simp only [cond_true] at h
        cases h
        rw [Bool.and_eq_true] at hb
        have hm := Nat.le_of_ble_eq_true hb.2
        refine Step.val rfl fun a w ⟨φ, Pub, I, h0, hn, hs'⟩ => ?_
        obtain ⟨f1, Pub', I', H', hR⟩ := dfE_ok S 12 _ _ _ _ [] _ _ hdf hC (fun r e hm => by cases hm) (by rw [List.append_nil]; exact hb.1) I (S.v x _ _ _ _ (ev_R (h := st.as.heap) hs' x))
        rw [List.append_nil] at I'
        unfold EV.av RA RP at hR
        obtain ⟨b, o, e1, hc⟩ := hR
        refine ⟨.slice (some ⟨b, o, none⟩) m m, w, ?_, Sat.put I' h0 hn (fun s => RA_mono H' _ _ (fun _ _ => rfl) (hs' s)) hd (by unfold EV.av RA RP; exact ⟨_, _, rfl, Nat.le_refl _, by unfold maxLen; omega, (fun h => by cases h), .inr ⟨b, o, rfl, hc⟩⟩)⟩
        have hrun : (Instr.sliceAt T (a.eval x) none none none).run P w = .ok (.slice (some ⟨b, o, none⟩) m m) w := by
          rw [e1]
          unfold Instr.sliceAt
          rw [Sem.run_bind, run_underlying hu w]
          simp only [Result.andThen_ok]
          cases m with
          | zero => simp [Instr.sureAddr, Instr.sliceBounds, run_sizeOf hs]
          | succ m => simp [Instr.sureAddr, Instr.sliceBounds, run_sizeOf hs, Addr.add_mid]
        simp only [execOp, Option.map_none]
        rw [Sem.run_bind, hrun]; rfl
    · cases h
  · cases h
theorem mkfF_ok {d : Nat} {ty : TypeId} {fn : Fn} {first captured : Array Operand} {R : RS} {ps : String} {af : Array Edge} {vs : List (Nat × EV)} {bs : List (Nat × EB)} (S : Sub vs bs st) (h : mkfF vs bs d fn first.toList captured.toList = some R) (hC : ∀ c ∈ R.C, c) (hd : Nat.blt d n = true) : Step P E kp n ops ⟨some d, .makeFunc fn first captured, ty, ps, af, none⟩ st.as (R.app st).as := by
  unfold mkfF at h
  split at h
  · next f =>
    split at h
    · next hf =>
      split at h
      · next C cs F hdf =>
        cases hb : shL cs && ndB bs F with
        | false => rw [hb] at h; cases h
        | true =>
          rw [hb] at h
          simp only [cond_true] at h
          cases h
          rw [Bool.and_eq_true] at hb
          refine Step.val rfl fun a w ⟨φ, Pub, I, h0, hn, hs⟩ => ?_
          have hx : ∀ args : List Operand, RAs w Pub φ (avL (argE vs args)) (args.map a.eval) := by
            intro args
            induction args with
            | nil => simp only [argE, avL, List.map_nil]; unfold RAs; rfl
            | cons x xs ih =>
              simp only [argE, avL, List.map_cons]; unfold RAs
              exact ⟨_, _, rfl, S.v x _ _ _ _ (ev_R (h := st.as.heap) hs x), ih⟩
          obtain ⟨f1, Pub', I', H', hR⟩ := dfL_ok (dfE_ok S 12) _ _ _ _ [] _ _ hdf hC (fun r e hm => by cases hm) (by rw [List.append_nil]; exact hb.2) I (hx captured.toList)
          rw [List.append_nil] at I'
          have e1 : first = #[] := by simpa using hf
          refine ⟨.func (.func f) #[] (captured.toList.map a.eval).toArray, w, ?_, ?_⟩
          · subst e1
            have e2 : captured.map a.eval = (captured.toList.map a.eval).toArray := by rw [← List.map_toArray, Array.toArray_toList]
            simp [execOp, Instr.makeFunc, e2]
          · exact Sat.put I' h0 hn (fun s => RA_mono H' _ _ (fun _ _ => rfl) (hs s)) hd (by
              show RA w Pub' φ (EV.fn f cs).av _
              unfold EV.av RA RP
              exact ⟨_, rfl, (avL_pvL cs _ hb.1).1 hR⟩)
      · cases h
    · cases h
  · cases h
theorem mapF_ok {d : Nat} {ty : TypeId} {o : Op} {R : RS} {ps : String} {af : Array Edge} {vs : List (Nat × EV)} {bs : List (Nat × EB)} (S : Sub vs bs st) (hP : tab.ok P) (h : mapF tab vs bs d o = some R) (hC : ∀ c ∈ R.C, c) (hf : ∀ p ∈ R.hp, (ob_ bs p.1).alive = true ∨ st.free kp p.1 = true)
    (hnd : (ob_ bs (nmB d)).alive = false) (hd : Nat.blt d n = true) : Step P E kp n ops ⟨some d, o, ty, ps, af, none⟩ st.as (R.app st).as := by
  unfold mapF at h
  cases h
theorem updF_ok {ty : TypeId} {T : TypeId} {m x y : Operand} {R : RS} {ps : String} {af : Array Edge} {vs : List (Nat × EV)} {bs : List (Nat × EB)} (S : Sub vs bs st) (hP : tab.ok P) (h : updF tab bs T (evOf vs m) (evOf vs x) (evOf vs y) = some R) :
    Step P E kp n ops ⟨none, .mapUpdate T m x y, ty, ps, af, none⟩ st.as (R.app st).as := by
  unfold updF at h
  cases h
theorem lkF_ok {d : Nat} {wr : Bool} {ty T : TypeId} {x : Operand} {R : RS} {ps : String} {af : Array Edge} {vs : List (Nat × EV)} {bs : List (Nat × EB)} (hP : tab.ok P) (S : Sub vs bs st) (h : lkF tab vs bs d wr ty T x = some R) (hC : ∀ c ∈ R.C, c) (hf : ∀ p ∈ R.hp, (ob_ bs p.1).alive = true ∨ st.free kp p.1 = true)
    (hnd : (ob_ bs (nmB d)).alive = false) (hnz : (ob_ bs (nmZ d)).alive = false) (hd : Nat.blt d n = true) : Step P E kp n ops ⟨some d, .load T x, ty, ps, af, none⟩ st.as (R.app st).as := by
  unfold lkF at h
  split at h
  · next C d' v he =>
    cases hb : Nat.beq d' d with
    | false => rw [hb] at h; cases h
    | true =>
      have := Nat.eq_of_beq_eq_true hb
      subst this
      rw [hb] at h
      simp only [cond_true] at h
      split at h
      · next C' y F hdf =>
        cases hn : ndB bs F with
        | false => rw [hn] at h; cases h
        | true =>
          rw [hn] at h; cases h
          have k1 := opF_ok (P := P) (E := E) (kp := kp) (n := n) (ops := ops) (ty := ty) (ps := ps) (af := af) hP S he (fun c hc => hC c (List.mem_append_left _ hc)) (fun p hp => by cases hp) hnd hnz hd
          refine k1.wk ?_
          rintro a w ⟨φ, Pub, I, h0, hn0, hs⟩
          have hv : RA w Pub φ v.av (a.tmps.getD d' undef) := by
            have := hs d'
            rw [show look AV.any ((RS.mk C [(d', v)] []).app st).as.slots d' = v.av from by
              show look AV.any ((d', v.av) :: st.as.slots) d' = _
              rw [look_cons, if_pos rfl]] at this
            exact this
          obtain ⟨f1, Pub', I', H', hR⟩ := dfE_ok S 12 _ _ _ _ [] _ _ hdf (fun c hc => hC c (List.mem_append_right _ hc)) (fun r e hm => by cases hm) (by rw [List.append_nil]; exact hn) I hv
          rw [List.append_nil] at I'
          refine ⟨φ, Pub', I', h0, hn0, fun s => ?_⟩
          show RA w Pub' φ (look AV.any ((d', y.av) :: st.as.slots) s) _
          rw [look_cons]
          split
          · next e => subst e; exact hR
          · next e =>
            have h2 := hs s
            rw [show look AV.any ((RS.mk C [(d', v)] []).app st).as.slots s = look AV.any st.as.slots s from by
              show look AV.any ((d', v.av) :: st.as.slots) s = _
              rw [look_cons, if_neg e]] at h2
            exact RA_mono H' _ _ (fun _ _ => rfl) h2
      · cases h
  · cases h
theorem plainF_ok {d : Nat} {ty : TypeId} {o : Op} {R : RS} {ps : String} {af : Array Edge} {vs : List (Nat × EV)} {bs : List (Nat × EB)} (S : Sub vs bs st) (hP : tab.ok P) (h : plainF tab H bs d ty vs o = some R) (hC : ∀ c ∈ R.C, c) (hf : ∀ p ∈ R.hp, (ob_ bs p.1).alive = true ∨ st.free kp p.1 = true)
    (hnd : (ob_ bs (nmB d)).alive = false) (hnz : (ob_ bs (nmZ d)).alive = false) (hd : Nat.blt d n = true) : Step P E kp n ops ⟨some d, o, ty, ps, af, none⟩ st.as (R.app st).as := by
  unfold plainF at h
  split at h
  · split at h
    · next C x hp => cases h; exact pickF_ok S hp hC hd
    · cases h
  · next x =>
    split at h
    · next T _ =>
      have hx := S.v x
      have mv : Step P E kp n ops ⟨some d, .assign x, ty, ps, af, none⟩ st.as (st.as.put d (evOf vs x).av) := S_mv (.inr rfl) hd hx
      unfold ownF at h
      split at h
      · next y hy =>
        split at h
        · cases h
          rw [hy] at mv
          have hfr : st.free kp (nmB d) = true := by
            rcases hf _ (List.mem_singleton.2 rfl) with k | k
            · rw [hnd] at k; cases k
            · exact k
          rw [← as_free] at hfr
          refine (mv.wk (wk_nil d (nmB d) T 1 (by show Gv (look AV.any ((d, _) :: st.as.slots) d) _; rw [look_cons, if_pos rfl]; exact Gv.r) ?_)).wk ?_
          · obtain ⟨f1, f2, f3, f4⟩ := free_split hfr
            exact free_mk f1 f2 (by
              show sHas (nmB d) ((d, _) :: st.as.slots) = false
              simp only [sHas, f3, Bool.or_false]; rfl) f4
          · intro a w hs
            refine Sat.congr (st := ⟨(d, .osl (nmB d) 0) :: (st.as.put d (EV.v (Value.slice none 0 0)).av).slots, (nmB d, .row [] T 1 0) :: (st.as.put d (EV.v (Value.slice none 0 0)).av).heap⟩) (fun s => ?_) (fun r => rfl) hs
            show look AV.any ((d, AV.osl (nmB d) 0) :: st.as.slots) s = look AV.any ((d, AV.osl (nmB d) 0) :: (d, (EV.v (Value.slice none 0 0)).av) :: st.as.slots) s
            simp only [look_cons]
            split
            · rfl
            · rfl
        · cases h; exact mv
      · cases h; exact mv
    · split at h
      · next T sz _ =>
        have hx := S.v x
        have mv : Step P E kp n ops ⟨some d, .assign x, ty, ps, af, none⟩ st.as (st.as.put d (evOf vs x).av) := S_mv (.inr rfl) hd hx
        unfold nlF at h
        split at h
        · next hy =>
          cases h
          rw [hy] at mv
          have hfr : st.free kp (nmB d) = true := by
            rcases hf _ (List.mem_singleton.2 rfl) with k | k
            · rw [hnd] at k; cases k
            · exact k
          rw [← as_free] at hfr
          obtain ⟨s', hs'⟩ := nlB_ob T sz
          refine (mv.wk (wk_nil d (nmB d) T s' (by show Gv (look AV.any ((d, _) :: st.as.slots) d) _; rw [look_cons, if_pos rfl]; exact Gv.r) ?_)).wk ?_
          · obtain ⟨f1, f2, f3, f4⟩ := free_split hfr
            exact free_mk f1 f2 (by
              show sHas (nmB d) ((d, _) :: st.as.slots) = false
              simp only [sHas, f3, Bool.or_false]; rfl) f4
          · intro a w hs
            refine Sat.congr (st := ⟨(d, .osl (nmB d) 0) :: (st.as.put d (EV.v (Value.slice none 0 0)).av).slots, (nmB d, .row [] T s' 0) :: (st.as.put d (EV.v (Value.slice none 0 0)).av).heap⟩) (fun s => ?_) (fun r => ?_) hs
            rotate_left
            · show look OB.dead ((nmB d, (nlB T sz).ob) :: st.as.heap) r = look OB.dead ((nmB d, OB.row [] T s' 0) :: st.as.heap) r
              rw [hs']
            show look AV.any ((d, AV.osl (nmB d) 0) :: st.as.slots) s = look AV.any ((d, AV.osl (nmB d) 0) :: (d, (EV.v (Value.slice none 0 0)).av) :: st.as.slots) s
            simp only [look_cons]
            split
            · rfl
            · rfl
        · cases h; exact mv
      · cases hm : memN d H.fz with
        | true => rw [hm] at h; exact fzF_ok (.inr rfl) S h hC hd
        | false => rw [hm] at h; simp only [cond_false] at h; exact opF_ok hP S h hC hf hnd hnz hd
  · next x =>
    cases hk : memN d H.fk with
    | true => rw [hk] at h; exact fkF_ok S h hC hd
    | false =>
     rw [hk] at h
     simp only [cond_false] at h
     cases hm : memN d H.fz with
     | true => rw [hm] at h; exact fzF_ok (.inl rfl) S h hC hd
     | false => rw [hm] at h; simp only [cond_false] at h; exact opF_ok hP S h hC hf hnd hnz hd
  · next T ps' =>
    rw [foF_eq] at h
    have h : opF tab vs bs d (memN d H.wr) ty (.build T ps') = some R := by
      cases hm : memN d H.fo with
      | true => rw [hm] at h; exact h
      | false => rw [hm] at h; exact h
    exact opF_ok hP S h hC hf hnd hnz hd
  · next T x =>
    cases hm : memN d H.fk with
    | true => rw [hm] at h; exact lkF_ok hP S h hC hf hnd hnz hd
    | false => rw [hm] at h; simp only [cond_false] at h; exact opF_ok hP S h hC hf hnd hnz hd
  · next T x y =>
    cases hm : memN d H.sel with
    | true => rw [hm] at h; exact selF_ok hP S h hC hd
    | false => rw [hm] at h; simp only [cond_false] at h; exact opF_ok hP S h hC hf hnd hnz hd
  · next T x lo hi mx =>
    cases hm : memN d H.cut with
    | true => rw [hm] at h; exact ocutF_ok hP S h hC hd
    | false =>
      rw [hm] at h
      simp only [cond_false] at h
      cases hk : memN d H.fk && lo.isNone && hi.isNone && mx.isNone with
      | true =>
        rw [hk] at h
        simp only [cond_true] at h
        simp only [Bool.and_eq_true, Option.isNone_iff_eq_none] at hk
        obtain ⟨⟨⟨_, e1⟩, e2⟩, e3⟩ := hk
        subst e1 e2 e3
        exact skF_ok hP S h hC hd
      | false => rw [hk] at h; simp only [cond_false] at h; exact opF_ok hP S h hC hf hnd hnz hd
  · exact mkfF_ok S h hC hd
  · exact mapF_ok S hP h hC hf hnd hd
  · exact mapF_ok S hP h hC hf hnd hd
  · exact mapF_ok S hP h hC hf hnd hd
  · exact mapF_ok S hP h hC hf hnd hd
  · exact opF_ok hP S h hC hf hnd hnz hd
theorem gmvF_ok {fk : List Nat} {d j : Nat} {want c : Bool} {ty : TypeId} {o : Op} {R : RS} {ps : String} {af : Array Edge} {vs : List (Nat × EV)} {bs : List (Nat × EB)} (S : Sub vs bs st) (h : gmvF fk vs bs d c o = some R) (hC : ∀ c ∈ R.C, c) (hg : guardB ops st.slots j want = some c) (hd : Nat.blt d n = true) :
    Step P E kp n ops ⟨some d, o, ty, ps, af, some (j, want)⟩ st.as (R.app st).as := by
  unfold gmvF at h
  split at h
  · next tx =>
    cases hm : memN d fk with
    | false => rw [hm] at h; cases h
    | true =>
      rw [hm] at h
      simp only [cond_true] at h
      split at h
      · next r m hl =>
        split at h
        · next C y F hdf =>
          cases hb : ndB bs F && !Nat.beq d tx with
          | false => rw [hb] at h; cases h
          | true =>
            rw [hb] at h; cases h
            rw [Bool.and_eq_true] at hb
            have hls : look EV.any st.slots tx = .osl r m := by
              rcases S.e (.tmp tx) with k | k
              · have k : look EV.any vs tx = .any := k
                rw [hl] at k; cases k
              · have k : look EV.any st.slots tx = look EV.any vs tx := k
                rw [k, hl]
            have w1 : Wk E kp n st.as (ES.as ⟨(tx, y) :: st.slots, F ++ st.heap⟩) := by
              rintro a w ⟨φ, Pub, I, h0, hn0, hs⟩
              have hv : RA w Pub φ (EV.osl r m).av (a.tmps.getD tx undef) := by
                have := hs tx
                rw [show look AV.any st.as.slots tx = (look EV.any st.slots tx).av from look_avs _ _, hls] at this
                exact this
              obtain ⟨f1, Pub', I', H', hR⟩ := dfE_ok S 12 _ _ _ _ [] _ _ hdf hC (fun r e hm => by cases hm) (by rw [List.append_nil]; exact hb.1) I hv
              rw [List.append_nil] at I'
              refine ⟨φ, Pub', I', h0, hn0, fun s => ?_⟩
              show RA w Pub' φ (look AV.any ((tx, y.av) :: st.as.slots) s) _
              rw [look_cons]
              split
              · next e => subst e; exact hR
              · exact RA_mono H' _ _ (fun _ _ => rfl) (hs s)
            have hg1 : guardB ops ((tx, y) :: st.slots) j want = some c := by
              unfold guardB at hg ⊢
              split at hg
              · next gs hj =>
                simp only [look_cons]
                by_cases e : tx = gs
                · subst e; rw [hls] at hg; cases hg
                · rw [if_neg e]; exact hg
              · cases hg
            have k1 : Step P E kp n ops ⟨some d, .move (.tmp tx), ty, ps, af, none⟩ (ES.as ⟨(tx, y) :: st.slots, F ++ st.heap⟩) ((ES.as ⟨(tx, y) :: st.slots, F ++ st.heap⟩).put d y.av) :=
              S_mv (.inl rfl) hd (by
                rw [as_ev]
                show Gv (look EV.any ((tx, y) :: st.slots) tx).av y.av
                rw [look_cons, if_pos rfl]; exact Gv.r)
            exact (guard_ok (st := ⟨(tx, y) :: st.slots, F ++ st.heap⟩) hg1 hd fun _ => k1).pre w1
        · cases h
      · cases h
  · cases h
theorem nthE_get : ∀ (i : Nat) (l : List EV) (x : EV), nthE i l = some x → (avL l)[i]? = some x.av
  | 0, [], x, h => by cases h
  | 0, y :: l, x, h => by cases h; rfl
  | i + 1, [], x, h => by cases h
  | i + 1, y :: l, x, h => nthE_get i l x h
theorem avL_set : ∀ (l : List EV) (i : Nat) (x : EV), avL (l.set i x) = (avL l).set i x.av
  | [], _, _ => rfl
  | y :: l, 0, x => rfl
  | y :: l, i + 1, x => by
    show y.av :: avL (l.set i x) = y.av :: (avL l).set i x.av
    rw [avL_set l i x]
theorem nbF_ok {o : Oper} {nb : List (Nat × Nat × Nat × Nat)} {bs : List (Nat × EB)} {R0 : Option RS} {R : RS} (h : nbF nb bs R0 = some R) (hC : ∀ c ∈ R.C, c) (hf : ∀ p ∈ R.hp, (ob_ bs p.1).alive = true ∨ st.free kp p.1 = true)
    (k : ∀ R1, R0 = some R1 → (∀ c ∈ R1.C, c) → Step P E kp n ops o st.as (R1.app st).as) : Step P E kp n ops o st.as (R.app st).as := by
  unfold nbF at h
  split at h
  · exact k R h hC
  · split at h
    · next C r cells t =>
      split at h
      · next i T sz _ =>
        split at h
        · next hn =>
          cases hq : (ob_ bs (nmQ r)).alive || hasL (nmQ r) (avL cells) || Nat.beq (nmQ r) r with
          | true => rw [hq] at h; cases h
          | false =>
            rw [hq] at h; cases h
            simp only [Bool.or_eq_false_iff] at hq
            have hne : nmQ r ≠ r := fun e => by
              have : Nat.beq (nmQ r) r = true := by rw [e]; simp
              rw [this] at hq; exact absurd hq.2 (by decide)
            have hfr : st.free kp (nmQ r) = true := by
              rcases hf (nmQ r, .rz 0 sz (fun _ _ => .any) T 0) (List.mem_cons_of_mem _ (List.mem_singleton.2 rfl)) with q | q
              · rw [hq.1.1] at q; cases q
              · exact q
            rw [← as_free] at hfr
            obtain ⟨f1, f2, f3, f4⟩ := free_split hfr
            have k1 := k _ rfl hC
            have hl : ((RS.mk C [] [(r, EB.box cells t)]).app st).as.ob r = .box (avL cells) t := by
              show look OB.dead ((r, _) :: st.as.heap) r = _
              rw [look_cons, if_pos rfl]; rfl
            refine (k1.wk (wk_nilB (t := T) (sz := sz) r (nmQ r) i hl (nthE_get _ _ _ hn) Gv.r (free_mk ?_ ?_ f3 f4) hne)).wk ?_
            · show (look OB.dead ((r, _) :: st.as.heap) (nmQ r)).alive = false
              rw [look_cons, if_neg (Ne.symm hne)]; exact f1
            · show hHas (nmQ r) ((r, OB.box (avL cells) t) :: st.as.heap) = false
              simp only [hHas, Bool.or_eq_false_iff]
              exact ⟨hq.1.2, f2⟩
            · intro a w hs
              refine Sat.congr (st := ⟨st.as.slots, (r, OB.box ((avL cells).set i (.osl (nmQ r) 0)) t) :: (nmQ r, OB.row [] T sz 0) :: (r, OB.box (avL cells) t) :: st.as.heap⟩) (fun s => rfl) (fun q => ?_) hs
              show look OB.dead ((r, OB.box (avL (cells.set i (.osl (nmQ r) 0))) t) :: (nmQ r, OB.row [] T sz 0) :: st.as.heap) q = look OB.dead ((r, OB.box ((avL cells).set i (.osl (nmQ r) 0)) t) :: (nmQ r, OB.row [] T sz 0) :: (r, OB.box (avL cells) t) :: st.as.heap) q
              rw [avL_set]
              simp only [look_cons]
              split
              · rfl
              · split
                · rfl
                · rfl
        · exact k R h hC
      · exact k R h hC
    · exact k R h hC
theorem rkL_ok {bs : List (Nat × EB)} {T : TypeId} {sz : Nat} {o : Oper} : ∀ (qs : List Nat) {R R' : RS}, rkL bs T sz qs R = some R' → (∀ p ∈ R'.hp, (ob_ bs p.1).alive = true ∨ st.free kp p.1 = true) →
    R'.C = R.C ∧ (∀ p ∈ R.hp, p ∈ R'.hp) ∧ (Step P E kp n ops o st.as (R.app st).as → Step P E kp n ops o st.as (R'.app st).as)
  | [], R, R', h, hf => by
    unfold rkL at h; cases h
    exact ⟨rfl, fun _ h => h, id⟩
  | q :: qs, R, R', h, hf => by
    unfold rkL at h
    cases hc : (ob_ bs q).alive || hasK q R.hp || hHas q (obs R.hp) || sHas q (avs R.sl) with
    | true => rw [hc] at h; cases h
    | false =>
      rw [hc] at h
      simp only [cond_false] at h
      simp only [Bool.or_eq_false_iff] at hc
      obtain ⟨⟨⟨c1, c2⟩, c3⟩, c4⟩ := hc
      obtain ⟨a1, a2, a3⟩ := rkL_ok qs h hf
      refine ⟨a1, fun p hp => a2 p (List.mem_cons_of_mem _ hp), fun k => a3 ?_⟩
      have hfr : st.free kp q = true := by
        rcases hf (q, _) (a2 _ (List.mem_cons_self ..)) with k | k
        · rw [c1] at k; cases k
        · exact k
      rw [← as_free] at hfr
      obtain ⟨f1, f2, f3, f4⟩ := free_split hfr
      refine (k.wk (wk_nilNew q T sz (free_mk ?_ ?_ ?_ f4))).wk fun a w h => h
      · show (look OB.dead (obs (R.hp ++ st.heap)) q).alive = false
        rw [obs_app, look_app, if_neg (by rw [hasK_obsE, c2]; simp)]; exact f1
      · show hHas q (obs (R.hp ++ st.heap)) = false
        rw [obs_app, hHas_append, c3, Bool.false_or]; exact f2
      · show sHas q (avs (R.sl ++ st.slots)) = false
        rw [avs_app, sHas_append, c4, Bool.false_or]; exact f3
theorem rkF_ok {rk : List (Nat × TypeId × Nat × List Nat)} {bs : List (Nat × EB)} {d : Nat} {R0 : Option RS} {R : RS} {o : Oper} (h : rkF rk bs d R0 = some R) (hC : ∀ c ∈ R.C, c) (hf : ∀ p ∈ R.hp, (ob_ bs p.1).alive = true ∨ st.free kp p.1 = true)
    (k : ∀ R1, R0 = some R1 → (∀ c ∈ R1.C, c) → (∀ p ∈ R1.hp, (ob_ bs p.1).alive = true ∨ st.free kp p.1 = true) → Step P E kp n ops o st.as (R1.app st).as) : Step P E kp n ops o st.as (R.app st).as := by
  unfold rkF at h
  split at h
  · exact k R h hC hf
  · split at h
    · exact k R h hC hf
    · split at h
      · obtain ⟨a1, a2, a3⟩ := rkL_ok (P := P) (E := E) (kp := kp) (n := n) (ops := ops) (o := o) _ h hf
        exact a3 (k _ rfl (by rw [← a1]; exact hC) fun p hp => hf p (a2 p hp))
      · cases h
theorem nzV_gv {x e : EV} : Gv x.av (nzV x e).av := by
  unfold nzV
  split
  · split
    · intro w Pub φ u k
      unfold EV.av RA at k ⊢
      unfold RP at k
      subst k
      unfold EV.pv RP
      exact ⟨none, 0, rfl, Nat.le_refl _, by unfold maxLen; omega, fun _ => rfl, .inl rfl⟩
    · exact Gv.r
  · exact Gv.r
theorem nzS_gv {nz : List (Nat × Nat × EV)} {x : Operand} {v : EV} : Gv v.av (nzS nz x v).av := by
  unfold nzS
  split
  · exact Gv.r
  · split
    · split
      · exact nzV_gv
      · exact Gv.r
    · exact Gv.r
theorem nzL_gv {w : World} {Pub : Nat → Nat → Prop} {φ : Ghost} : ∀ (l : List EV) (k : Nat) {e : EV} {us : List Value}, RAs w Pub φ (avL l) us → RAs w Pub φ (avL (nzL k e l)) us
  | [], _, _, _, h => by unfold nzL; exact h
  | x :: xs, 0, e, us, h => by
    unfold nzL
    unfold avL RAs at h ⊢
    obtain ⟨u, vs, e1, k1, k2⟩ := h
    exact ⟨u, vs, e1, nzV_gv _ _ _ _ k1, k2⟩
  | x :: xs, k + 1, e, us, h => by
    unfold nzL
    unfold avL RAs at h ⊢
    obtain ⟨u, vs, e1, k1, k2⟩ := h
    exact ⟨u, vs, e1, k1, nzL_gv xs k k2⟩
theorem nzF_ok {nz : List (Nat × Nat × EV)} {d : Nat} {bs : List (Nat × EB)} {R0 : Option RS} {R : RS} {o : Oper} (h : nzF nz d R0 = some R) (hC : ∀ c ∈ R.C, c) (hf : ∀ p ∈ R.hp, (ob_ bs p.1).alive = true ∨ st.free kp p.1 = true)
    (k : ∀ R1, R0 = some R1 → (∀ c ∈ R1.C, c) → (∀ p ∈ R1.hp, (ob_ bs p.1).alive = true ∨ st.free kp p.1 = true) → Step P E kp n ops o st.as (R1.app st).as) : Step P E kp n ops o st.as (R.app st).as := by
  unfold nzF at h
  split at h
  · exact k R h hC hf
  · split at h
    · exact k R h hC hf
    · next k' e _ =>
      split at h
      · next C d' l hp =>
        cases h
        refine (k ⟨C, [(d', .agg l)], hp⟩ rfl hC hf).wk (wk_gv (sl := avs ((d', .agg l) :: st.slots)) (sl' := avs ((d', .agg (nzL k' e l)) :: st.slots)) fun t => ?_)
        show Gv (look AV.any ((d', AV.agg (avL l)) :: avs st.slots) t) (look AV.any ((d', AV.agg (avL (nzL k' e l))) :: avs st.slots) t)
        rw [look_cons, look_cons]
        split
        · intro w Pub φ u hu
          unfold RA at hu ⊢
          obtain ⟨vs, e1, hu⟩ := hu
          exact ⟨vs, e1, nzL_gv l k' hu⟩
        · exact Gv.r
      · exact k R h hC hf
theorem stepF_ok {o : Oper} {R : RS} {vs : List (Nat × EV)} {bs : List (Nat × EB)} (S : Sub vs bs st) (hv : ∀ s ∈ opnds o.op.operands.toList, look EV.any vs s = look EV.any st.slots s) (hP : tab.ok P) (h : stepF tab H ops vs bs o = some R) (hC : ∀ c ∈ R.C, c) (hf : ∀ p ∈ R.hp, (ob_ bs p.1).alive = true ∨ st.free kp p.1 = true) (hd : isSome' o.dst n = true) :
    Step P E kp n ops o st.as (R.app st).as := by
  obtain ⟨dst, op, ty, ps, af, gd⟩ := o
  unfold stepF at h
  simp only at h hd
  split at h
  · split at h
    · split at h
      · exact nbF_ok h hC hf fun R0 h0 hC0 => storeF_ok hP S h0 hC0 (S.v _) ((S.v _).trans nzS_gv)
      · exact updF_ok S hP h
      · exact oclrF_ok hP S h hC
      · cases h
    · cases h
  · next d =>
    have hd' : Nat.blt d n = true := hd
    cases hb : (ob_ bs (nmB d)).alive || (ob_ bs (nmZ d)).alive with
    | true => rw [hb] at h; cases h
    | false =>
      rw [hb] at h
      simp only [cond_false] at h
      rw [Bool.or_eq_false_iff] at hb
      split at h
      · exact nzF_ok h hC hf fun R2 h2 hC2 hf2 => rkF_ok h2 hC2 hf2 fun R1 h1 hC1 hf1 => plainF_ok S hP h1 hC1 hf1 hb.1 hb.2 hd'
      · next j want =>
        split at h
        · cases h
        · next c hg =>
          have hg := guardB_sub S hg
          have hpk := pkV_eq hv
          split at h
          · split at h
            · next C x hp =>
              cases h
              exact guard_ok hg hd' fun hc => pickF_ok S hp (impP_ok hc hC) hd'
            · cases h
          · split at h
            · next R' hgm => cases h; exact gmvF_ok S hgm hC hg hd'
            split at h
            · next C d' x hp =>
              cases hbd : Nat.beq d' d with
              | false => rw [hbd] at h; cases h
              | true =>
                rw [hbd] at h; cases h
                rw [hpk] at hp hC
                have e := nat_eq hbd; subst e
                refine guard_ok hg hd' fun hc => ?_
                have h2 := impP_ok hc hC
                have sg := strip_gv (st := st) (l := opnds op.operands.toList) (fun c hc => h2 c (List.mem_append_left _ hc))
                have k := opF_ok (P := P) (E := E) (kp := kp) (n := n) (ops := ops) (ps := ps) (af := af) hP (strip_sub (st := st) (l := opnds op.operands.toList) S.b) hp (fun c hc => h2 c (List.mem_append_right _ hc)) (fun p hp => by cases hp) hb.1 hb.2 hd'
                refine (k.pre (st := st.as) ?_).wk ?_
                · refine wk_gv (sl := st.as.slots) fun t => ?_
                  have := (sg t).1
                  rw [look_avs]; exact this
                · refine wk_gv (h := st.as.heap) (sl := avs ([(d', x)] ++ (stripV (pkV st.slots (opnds op.operands.toList)) ++ st.slots))) fun t => ?_
                  have := (sg t).2
                  show Gv (look AV.any ((d', x.av) :: avs _) t) (look AV.any ((d', x.av) :: st.as.slots) t)
                  rw [look_cons, look_cons]
                  split
                  · exact Gv.r
                  · rw [look_avs]; exact this
            · cases h
              exact guard_ok hg hd' fun hc => by have e := hC (c = false) (by simp); rw [e] at hc; cases hc
end
end Go.Proofs.YtcebndkiagbddaaGreatDoor

