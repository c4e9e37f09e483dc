/- Part 4 of the proof: its texts one behind the other. -/
import Derived.Test.YtcebndkiagbddaaGreatDoorJ3

/- The walk by computation: regions in order, code, results, contracts. It names no function of the program. -/
namespace Go.Proofs.YtcebndkiagbddaaGreatDoor
open Go.RowKit
set_option linter.unusedVariables false
set_option linter.unusedSimpArgs false

section
variable {P : Program} {E : Env} {kp : List Nat} {n : Nat} {ops : Array Oper} {tab : TT} {H : Hi} {st : ES} {Q : Exit → Act → World → Prop}
theorem goR_ok {K : ES → Prop} {R : Option RS} (h : goR kp st.slots st.heap K R) : ∃ R', R = some R' ∧ (∀ p ∈ R'.hp, (ob_ st.heap p.1).alive = true ∨ st.free kp p.1 = true) ∧ (∀ c ∈ R'.C, c) ∧ K (R'.app st) := by
  unfold goR at h
  split at h
  · next C rs rh =>
    let R' : RS := ⟨C, rs, rh⟩
    cases hf : frOk st.heap st kp rh with
    | false => rw [hf] at h; exact h.elim
    | true =>
      rw [hf] at h
      obtain ⟨h1, h2⟩ := obA_ok h
      rw [appK_eq, appK_eq] at h2
      exact ⟨R', rfl, frOk_ok hf, h1, h2⟩
  · exact h.elim
theorem isSome_of {dst : Option Nat} (h : isSome' dst n = true) : ∀ x, dst = some x → Nat.blt x n = true := by
  intro x hx; subst hx; exact h
theorem callOf_eq {o : Oper} {f : FuncId} {args : List Operand} (h : callOf o = some (f, args)) : ∃ a T, o.op = .call { callee := .value (.func f), args := a, argTypes := T } ∧ a.toList = args := by
  unfold callOf at h
  split at h
  · next c hc =>
    split at h
    · next f' hf =>
      cases h
      obtain ⟨callee, a, T⟩ := c
      simp only at hf; subst hf
      exact ⟨a, T, hc, rfl⟩
    · cases h
  · cases h
theorem callE_eq {vs : List (Nat × EV)} {o : Oper} {f : FuncId} {args : List Operand} {ce : Option (List EV)} (h : callE vs o = some (f, args, ce)) : (ce = none ∧ callOf o = some (f, args)) ∨ (ce = none ∧ callG vs o = some (f, args)) ∨ ∃ l, ce = some l ∧ callV vs o = some (f, args, l) := by
  unfold callE at h
  split at h
  · next f' a' hc => cases h; exact .inl ⟨rfl, hc⟩
  · split at h
    · next f' a' hc => cases h; exact .inr (.inl ⟨rfl, hc⟩)
    · split at h
      · next f' a' l hc => cases h; exact .inr (.inr ⟨l, rfl, hc⟩)
      · cases h
theorem callG_eq {vs : List (Nat × EV)} {o : Oper} {f : FuncId} {args : List Operand} (h : callG vs o = some (f, args)) : ∃ t a T j w, o.op = .call { callee := .value (.tmp t), args := a, argTypes := T } ∧ o.guard = some (j, w) ∧ a.toList = args ∧ (stripE (look .any vs t) = .fn f [] ∨ stripE (look .any vs t) = .v (.func (.func f) #[] #[])) := by
  unfold callG at h
  split at h
  · next t a T g ho hg =>
    obtain ⟨j, w⟩ := g
    split at h
    · next f' hl => cases h; exact ⟨t, a, T, j, w, ho, hg, rfl, .inl hl⟩
    · next f' hl => cases h; exact ⟨t, a, T, j, w, ho, hg, rfl, .inr hl⟩
    · cases h
  · cases h
/-- A function that stands in a slot is called as by its name. -/
theorem Step.callee {f : FuncId} {t : Nat} {d : Option Tmp} {a : Array Operand} {T : Array TypeId} {ty : TypeId} {ps : String} {af : Array Edge} {s s' : AS} (hx : ∀ (a : Act) (w : World) (φ : Ghost) (Pub : Nat → Nat → Prop), (∀ x, RA w Pub φ (look .any s.slots x) (a.tmps.getD x undef)) → a.eval (.tmp t) = .func (.func f) #[] #[])
    (k : Step P E kp n ops ⟨d, .call { callee := .value (.func f), args := a, argTypes := T }, ty, ps, af, none⟩ s s') : Step P E kp n ops ⟨d, .call { callee := .value (.tmp t), args := a, argTypes := T }, ty, ps, af, none⟩ s s' := by
  intro b w K Q hs hK
  have h1 := k b w K Q hs hK
  obtain ⟨φ, Pub, I, h0, hn, hsl⟩ := hs
  have e := hx b w φ Pub hsl
  have e2 : b.eval (.func f) = .func (.func f) #[] #[] := rfl
  have e3 : execOp b.eval ⟨d, .call { callee := .value (.tmp t), args := a, argTypes := T }, ty, ps, af, none⟩ = execOp b.eval ⟨d, .call { callee := .value (.func f), args := a, argTypes := T }, ty, ps, af, none⟩ := by
    simp only [execOp, resolve, e, e2]
  unfold Oper.wp at h1 ⊢
  rw [e3]
  exact h1
theorem AllGv_of : ∀ {xs : List Operand} {st : AS} {f : Operand → AV}, (∀ x ∈ xs, Gv (st.ev x) (f x)) → ∀ {ys : List AV}, AllGv (xs.map f) ys → AllGv (xs.map st.ev) ys
  | [], _, _, _, _, h => h
  | x :: xs, st, f, hg, ys, h => by
    rw [List.map_cons] at h ⊢
    obtain ⟨y, zs, e, h1, h2⟩ := h
    exact ⟨y, zs, e, (hg x (by simp)).trans h1, AllGv_of (fun z hz => hg z (List.mem_cons_of_mem _ hz)) h2⟩
theorem nilF_ok {o : Oper} {d m : Nat} {rest : List Oper} (hP : tab.ok P) (h : nilF tab st.slots o = some (d, m)) (hd : Nat.blt d n = true) (k : ∀ g : Bool, (g = true → m = 0) → AO P E kp n ops Q rest (st.as.put d (.p (boolP g)))) : AO P E kp n ops Q (o :: rest) st.as := by
  obtain ⟨dst, op, ty, ps, af, gd⟩ := o
  unfold nilF at h
  simp only at h
  split at h
  · next T x y T' =>
    split at h
    · next d' =>
      split at h
      · next e s b z _ _ _ _ hti =>
        obtain ⟨_, hT, _⟩ := (TT.find_ok hP hti).sl e s b z rfl
        split at h
        · next hy =>
          have gy : Gv (st.as.ev y) (.p (.v (.slice none 0 0))) := by
            rw [as_ev]; show Gv (evOf st.slots y).av _; rw [hy]; exact Gv.r
          have gx : Gv (st.as.ev x) (evOf st.slots x).av := by rw [as_ev]; exact Gv.r
          split at h
          · next l hx => cases h; rw [hx] at gx; exact AO.eqNil (m := l.length) gx gy hT hd k
          · next n' sz f hx => cases h; rw [hx] at gx; exact AO.eqNil (m := m) (cells := lzC m sz f) (by have h3 := gx; unfold EV.av EV.pv at h3; exact h3) gy hT hd k
          · next c n' hx => cases h; rw [hx] at gx; exact AO.eqNil gx gy hT hd k
          · cases h
        · cases h
      · cases h
    · cases h
  · cases h
theorem nilF_dst {vs : List (Nat × EV)} {o : Oper} {d m : Nat} (h : nilF tab vs o = some (d, m)) : o.dst = some d := by
  obtain ⟨dst, op, ty, ps, af, gd⟩ := o
  unfold nilF at h
  simp only at h
  split at h
  · split at h
    · split at h
      · split at h
        · split at h
          · cases h; rfl
          · cases h; rfl
          · cases h; rfl
          · cases h
        · cases h
      · cases h
    · cases h
  · cases h
theorem gcall_ok {q : Operand} {vs : List (Nat × EV)} {bs : List (Nat × EB)} {a : Array Operand} {T : Array TypeId} {d j : Nat} {want c : Bool} {ty : TypeId} {ps : String} {af : Array Edge} {f : FuncId} {as : List EV} {res : EV} {C : List Prop} (S : Sub vs bs st)
    (hq : q = .func f ∨ ∃ t, q = .tmp t ∧ (stripE (look .any vs t) = .fn f [] ∨ stripE (look .any vs t) = .v (.func (.func f) #[] #[])))
    (hv : ∀ s ∈ opnds (q :: a.toList), look EV.any vs s = look EV.any st.slots s) (hg : guardB ops vs j want = some c) (hds : Nat.blt d n = true)
    (hfit : fitL [] (argE (stripV (pkV vs (opnds a.toList))) a.toList) as = some (C, [])) (hch : (res.av.inH [] && inDL [] (avL as) && res.av.inD []) = true)
    (h1 : c = true → Cf P f [] as [] res) (h2 : ∀ x ∈ impP (c = true) (stripC (pkV vs (opnds (Op.call { callee := .value q, args := a, argTypes := T }).operands.toList)) ++ C), x) :
    Step P E kp n ops ⟨some d, .call { callee := .value q, args := a, argTypes := T }, ty, ps, af, some (j, want)⟩ st.as (st.as.put d (EV.cnd c res).av) := by
  have eo : (Op.call { callee := .value q, args := a, argTypes := T }).operands.toList = q :: a.toList := by simp [Op.operands, Call.operands]
  rw [eo, pkV_eq hv] at h2
  have hva : ∀ s ∈ opnds a.toList, look EV.any vs s = look EV.any st.slots s := fun s hs => hv s (by
    cases q with
    | tmp t => exact List.mem_cons_of_mem _ hs
    | _ => exact hs)
  rw [pkV_eq hva] at hfit
  have hsc : ∀ x, x ∈ stripC (pkV st.slots (opnds a.toList)) → x ∈ stripC (pkV st.slots (opnds (q :: a.toList))) := fun x hx => by
    cases q with
    | tmp t =>
      show x ∈ stripC ((t, look .any st.slots t) :: pkV st.slots (opnds a.toList))
      simp only [stripC]
      split
      · exact List.mem_cons_of_mem _ hx
      · exact hx
    | _ => exact hx
  simp only [Bool.and_eq_true] at hch
  refine guard_ok (x := res) (guardB_sub S hg) hds fun hc => ?_
  have hev := h1 hc
  have hA := impP_ok hc h2
  have sgv := strip_gv (st := st) (l := opnds a.toList) (fun c hc => hA c (List.mem_append_left _ (hsc c hc)))
  obtain ⟨_, _, a3⟩ := fitL_ok as hfit (fun c hc => hA c (List.mem_append_right _ hc))
  have a4 := a3 [] (Ext.refl _)
  have sgid : ∀ x : AV, x.inD [] = true → x.sg [] = x := sg_nil
  have hargs : AllGv (a.toList.map st.as.ev) (sgL [] (avL as)) := by
    rw [argE_eq, avL_map, List.map_map] at a4
    refine AllGv_of (fun x hx => ?_) a4
    cases x with
    | tmp t =>
      have g1 := (sgv t).1
      show Gv (look AV.any st.as.slots t) _
      have e : look EV.any (stripV (pkV st.slots (opnds a.toList)) ++ st.slots) t = look EV.any (stripV (pkV st.slots (opnds a.toList))) t := by
        rw [look_app, if_pos]
        have hm : t ∈ opnds a.toList := by
          have : ∀ (l : List Operand), Operand.tmp t ∈ l → t ∈ opnds l := by
            intro l
            induction l with
            | nil => intro h; cases h
            | cons z l ih =>
              intro h
              rcases List.mem_cons.1 h with e | e
              · subst e; simp [opnds]
              · cases z <;> simp [opnds, ih e]
          exact this _ hx
        have : ∀ (l : List Nat), t ∈ l → hasK t (stripV (pkV st.slots l)) = true := by
          intro l
          induction l with
          | nil => intro h; cases h
          | cons z l ih =>
            intro h
            rcases List.mem_cons.1 h with e | e
            · subst e; simp [pkV, stripV, hasK]
            · simp [pkV, stripV, hasK, ih e]
        exact this _ hm
      rw [e] at g1; exact g1
    | const c => rw [as_ev]; exact Gv.r
    | func f => rw [as_ev]; exact Gv.r
    | global g => rw [as_ev]; exact Gv.r
  have k := S_callN (P := P) (E := E) (kp := kp) (n := n) (ops := ops) (st := st.as) (d := some d) (ty := ty) (ps := ps) (af := af) (argTypes := T) (hout := []) [] hev.1 hev.2 hargs (by simp only [Bool.and_eq_true]; exact ⟨⟨⟨⟨rfl, hch.1.2⟩, rfl⟩, hch.2⟩, rfl⟩) (by rw [Bool.and_eq_true]; exact ⟨rfl, hch.1.1⟩) rfl (isSome_of hds)
  have ea : a.toList.toArray = a := by simp
  rw [ea] at k
  have lift : ∀ s' : AS, Step P E kp n ops ⟨some d, .call { callee := .value (.func f), args := a, argTypes := T }, ty, ps, af, none⟩ st.as s' → Step P E kp n ops ⟨some d, .call { callee := .value q, args := a, argTypes := T }, ty, ps, af, none⟩ st.as s' := fun s' k => by
    rcases hq with rfl | ⟨t, rfl, hl⟩
    · exact k
    · refine Step.callee (fun b w φ Pub hs => ?_) k
      have hl2 : look EV.any vs t = look EV.any st.slots t := hv t (by simp [opnds])
      rw [hl2] at hl
      have h3 := hs t
      have e0 : look AV.any st.as.slots t = (look EV.any st.slots t).av := look_avs _ _
      rw [e0] at h3
      have h4 : RA w Pub φ (stripE (look EV.any st.slots t)).av (b.tmps.getD t undef) := by
        cases hx : look EV.any st.slots t with
        | cnd g y =>
          rw [hx] at h3
          have hgt : g = true := hA (g = true) (List.mem_append_left _ (by
            show (g = true) ∈ stripC ((t, look .any st.slots t) :: pkV st.slots (opnds a.toList))
            rw [hx]; simp [stripC]))
          unfold EV.av RA at h3
          exact h3.1 hgt
        | _ => rw [hx] at h3; exact h3
      show b.tmps.getD t undef = _
      rcases hl with hl | hl
      · rw [hl] at h4
        unfold EV.av RA RP at h4
        obtain ⟨us, e1, e2⟩ := h4
        have e3 : us = [] := by
          have : RPs w Pub (pvL []) us := e2
          unfold pvL RPs at this; exact this
        rw [e1, e3]
      · rw [hl] at h4
        unfold EV.av RA RP at h4
        exact h4
  refine (lift _ k).cast ?_
  show AS.mk ((d, res.av.sg []) :: st.as.slots) _ = AS.mk ((d, res.av) :: st.as.slots) _
  rw [sgid _ hch.2]; rfl
theorem callB_cases {bo : List Nat} {vs : List (Nat × EV)} {bs : List (Nat × EB)} {dst : Option Nat} {args : List Operand} {ce : List EV} {hin as hout res} {R : RS} (h : callB bo vs bs dst args ce hin as hout res = some R) :
    callF vs bs dst args ce hin as hout res = some R ∨ (hin = [] ∧ hout = [] ∧ ∃ d C, dst = some d ∧ borF vs bs args ce as res = some C ∧ R = ⟨C, [(d, res)], []⟩) := by
  unfold callB at h
  split at h
  · next d =>
    cases hm : memN d bo with
    | false => rw [hm] at h; exact .inl h
    | true =>
      rw [hm] at h
      simp only [cond_true] at h
      split at h
      · split at h
        · split at h
          · next C hb => cases h; exact .inr ⟨rfl, rfl, d, C, rfl, hb, rfl⟩
          · cases h
        · exact .inl h
      · cases h
  · exact .inl h
theorem callB_ok {bo : List Nat} {f : FuncId} {dst : Option Nat} {args : Array Operand} {argTypes : Array TypeId} {hin hout : List (Nat × EB)} {as : List EV} {res : EV} {R : RS} {vs : List (Nat × EV)} {bs : List (Nat × EB)} {ty : TypeId} {ps : String} {af : Array Edge} (S : Sub vs bs st) (hev : Cf P f hin as hout res)
    (h : callB bo vs bs dst args.toList [] hin as hout res = some R) (hC : ∀ c ∈ R.C, c) (hf : ∀ p ∈ R.hp, (ob_ bs p.1).alive = true ∨ st.free kp p.1 = true) (hd : ∀ x, dst = some x → Nat.blt x n = true) :
    Step P E kp n ops ⟨dst, .call { callee := .value (.func f), args := args, argTypes }, ty, ps, af, none⟩ st.as (R.app st).as := by
  rcases callB_cases h with h | ⟨rfl, rfl, d, C, rfl, hb, rfl⟩
  · exact callF_ok S hev.1 hev.2 h hC hf hd
  · exact borrow_ok S hev.1 hev.2 (fun a w φ Pub hs => ⟨[], rfl, by unfold avL RAs; rfl⟩) hb hC (hd d rfl)
theorem callVB_ok {bo : List Nat} {t : Nat} {f : FuncId} {dst : Option Nat} {args : Array Operand} {ce : List EV} {argTypes : Array TypeId} {hin hout : List (Nat × EB)} {as : List EV} {res : EV} {R : RS} {vs : List (Nat × EV)} {bs : List (Nat × EB)} {ty : TypeId} {ps : String} {af : Array Edge} (S : Sub vs bs st) (hev : Cf P f hin as hout res) (hl : look .any vs t = .fn f ce ∨ (look .any vs t = .v (.func (.func f) #[] #[]) ∧ ce = [])) (hs : shL ce = true)
    (h : callB bo vs bs dst args.toList ce hin as hout res = some R) (hC : ∀ c ∈ R.C, c) (hf : ∀ p ∈ R.hp, (ob_ bs p.1).alive = true ∨ st.free kp p.1 = true) (hd : ∀ x, dst = some x → Nat.blt x n = true) :
    Step P E kp n ops ⟨dst, .call { callee := .value (.tmp t), args := args, argTypes }, ty, ps, af, none⟩ st.as (R.app st).as := by
  rcases callB_cases h with h | ⟨rfl, rfl, d, C, rfl, hb, rfl⟩
  · exact callVF_ok S hev.1 hev.2 hl hs h hC hf hd
  · exact borrow_ok S hev.1 hev.2 (fun a w φ Pub hr => callV_hx S hl hs hr) hb hC (hd d rfl)
theorem gcallN_ok {bo : Bool} {q : Operand} {vs : List (Nat × EV)} {bs : List (Nat × EB)} {a : Array Operand} {T : Array TypeId} {d j : Nat} {want c : Bool} {ty : TypeId} {ps : String} {af : Array Edge} {f : FuncId} {as : List EV} {res : EV} {C : List Prop} (S : Sub vs bs st)
    (hq : q = .func f ∨ ∃ t, q = .tmp t ∧ (stripE (look .any vs t) = .fn f [] ∨ stripE (look .any vs t) = .v (.func (.func f) #[] #[])))
    (hv : ∀ s ∈ opnds (q :: a.toList), look EV.any vs s = look EV.any st.slots s) (hg : guardB ops vs j want = some c) (hds : Nat.blt d n = true)
    (hfit : gfitF bo (stripV (pkV vs (opnds a.toList))) bs a.toList as res = some C)
    (h1 : c = true → Cf P f [] as [] res) (h2 : ∀ x ∈ impP (c = true) (stripC (pkV vs (opnds (Op.call { callee := .value q, args := a, argTypes := T }).operands.toList)) ++ C), x) :
    Step P E kp n ops ⟨some d, .call { callee := .value q, args := a, argTypes := T }, ty, ps, af, some (j, want)⟩ st.as (st.as.put d (EV.cnd c res).av) := by
  unfold gfitF at hfit
  cases bo with
  | false =>
    simp only [cond_false] at hfit
    split at hfit
    · next C' hf =>
      obtain ⟨hch, hfit⟩ := bif_some hfit
      cases hfit
      exact gcall_ok S hq hv hg hds hf hch h1 h2
    · cases hfit
  | true =>
    simp only [cond_true] at hfit
    have eo : (Op.call { callee := .value q, args := a, argTypes := T }).operands.toList = q :: a.toList := by simp [Op.operands, Call.operands]
    rw [eo, pkV_eq hv] at h2
    have hva : ∀ s ∈ opnds a.toList, look EV.any vs s = look EV.any st.slots s := fun s hs => hv s (by
      cases q with
      | tmp t => exact List.mem_cons_of_mem _ hs
      | _ => exact hs)
    rw [pkV_eq hva] at hfit
    have hsc : ∀ x, x ∈ stripC (pkV st.slots (opnds a.toList)) → x ∈ stripC (pkV st.slots (opnds (q :: a.toList))) := fun x hx => by
      cases q with
      | tmp t =>
        show x ∈ stripC ((t, look .any st.slots t) :: pkV st.slots (opnds a.toList))
        simp only [stripC]
        split
        · exact List.mem_cons_of_mem _ hx
        · exact hx
      | _ => exact hx
    refine guard_ok (x := res) (guardB_sub S hg) hds fun hc => ?_
    have hev := h1 hc
    have hA := impP_ok hc h2
    have sgv := strip_gv (st := st) (l := opnds a.toList) (fun c hc => hA c (List.mem_append_left _ (hsc c hc)))
    have k := borrow_ok (P := P) (E := E) (kp := kp) (n := n) (ops := ops) (ty := ty) (ps := ps) (af := af) (argTypes := T) (dst := d) (args := a) (x := .func f) (strip_sub (st := st) (l := opnds a.toList) S.b) hev.1 hev.2 (fun b w φ Pub hs => ⟨[], rfl, by unfold avL RAs; rfl⟩) hfit (fun c hc => hA c (List.mem_append_right _ hc)) hds
    have k2 : Step P E kp n ops ⟨some d, .call { callee := .value (.func f), args := a, argTypes := T }, ty, ps, af, none⟩ st.as (st.as.put d res.av) := by
      refine (k.pre (st := st.as) ?_).wk ?_
      · refine wk_gv (sl := st.as.slots) fun t => ?_
        have := (sgv t).1
        rw [look_avs]; exact this
      · refine wk_gv (h := st.as.heap) (sl := (d, res.av) :: avs (stripV (pkV st.slots (opnds a.toList)) ++ st.slots)) fun t => ?_
        have := (sgv t).2
        show Gv (look AV.any ((d, res.av) :: avs _) t) (look AV.any ((d, res.av) :: st.as.slots) t)
        rw [look_cons, look_cons]
        split
        · exact Gv.r
        · rw [look_avs]; exact this
    rcases hq with rfl | ⟨t, rfl, hl⟩
    · exact k2
    · refine Step.callee (fun b w φ Pub hs => ?_) k2
      have hl2 : look EV.any vs t = look EV.any st.slots t := hv t (by simp [opnds])
      rw [hl2] at hl
      have h3 := hs t
      have e0 : look AV.any st.as.slots t = (look EV.any st.slots t).av := look_avs _ _
      rw [e0] at h3
      have h4 : RA w Pub φ (stripE (look EV.any st.slots t)).av (b.tmps.getD t undef) := by
        cases hx : look EV.any st.slots t with
        | cnd g y =>
          rw [hx] at h3
          have hgt : g = true := hA (g = true) (List.mem_append_left _ (by
            show (g = true) ∈ stripC ((t, look .any st.slots t) :: pkV st.slots (opnds a.toList))
            rw [hx]; simp [stripC]))
          unfold EV.av RA at h3
          exact h3.1 hgt
        | _ => rw [hx] at h3; exact h3
      show b.tmps.getD t undef = _
      rcases hl with hl | hl
      · rw [hl] at h4
        unfold EV.av RA RP at h4
        obtain ⟨us, e1, e2⟩ := h4
        have e3 : us = [] := by
          have : RPs w Pub (pvL []) us := e2
          unfold pvL RPs at this; exact this
        rw [e1, e3]
      · rw [hl] at h4
        unfold EV.av RA RP at h4
        exact h4
theorem nextF_ok {o : Oper} {d r q : Nat} {s : List Nat} {es : NetMap} {rest : List Oper} (h : nextF st.slots st.heap o = some (d, r, q, es.length, s, es.length, es)) (hd : isSome' o.dst n = true)
    (h1 : ∀ i : Nat, i < es.length → ¬ i ∈ s → AO P E kp n ops Q rest (ES.as ⟨(d, .tup [.b true, .any, .any]) :: st.slots, (r, .it q es.length (i :: s) es.length) :: st.heap⟩)) (h2 : (∀ i : Nat, i < es.length → i ∈ s) → AO P E kp n ops Q rest (ES.as ⟨(d, .tup [.b false]) :: st.slots, st.heap⟩)) :
    AO P E kp n ops Q (o :: rest) st.as := by
  unfold nextF at h
  cases h
/-- **A region in order.** -/
theorem runO_ok (hP : tab.ok P) : ∀ (os : List Oper) (st : ES) (K : ES → Prop), runO P kp n tab H ops os st K → (∀ st', K st' → To E kp n Q .normal st'.as) → AO P E kp n ops Q os st.as
  | [], st, K, h, hK => AO.nil (hK st h)
  | o :: os, ⟨sl, hp⟩, K, h, hK => by
    unfold runO at h
    let st : ES := ⟨sl, hp⟩
    cases hds : isSome' o.dst n with
    | false => rw [hds] at h; exact h.elim
    | true =>
      rw [hds] at h
      simp only [cond_true] at h
      have gen : goR kp sl hp (fun st' => runO P kp n tab H ops os st' K) (stepF tab H ops sl hp o) → AO P E kp n ops Q (o :: os) st.as := fun h => by
        obtain ⟨R, h1, h2, h3, h4⟩ := goR_ok (st := st) h
        exact AO.step (stepF_ok (Sub.full st) (fun _ _ => rfl) hP h1 h3 h2 hds) (runO_ok hP os _ K h4 hK)
      split at h
      · next f args ce hce =>
       rcases callE_eq hce with ⟨rfl, hc⟩ | ⟨rfl, hc⟩ | ⟨l, rfl, hc⟩
       · obtain ⟨a, T, ho, ha⟩ := callOf_eq hc
         obtain ⟨dst, op, ty, ps, af, gd⟩ := o
         simp only at ho h hds
         subst ho ha
         split at h
         · obtain ⟨hin, as, hout, res, hev, h⟩ := h
           obtain ⟨R, h1, h2, h3, h4⟩ := goR_ok (st := st) h
           exact AO.step (callB_ok (Sub.full st) hev h1 h3 h2 (isSome_of hds)) (runO_ok hP os _ K h4 hK)
         · next j want =>
          split at h
          · next d c _ hg =>
            obtain ⟨as, res, h⟩ := h
            split at h
            · next C hfit =>
              obtain ⟨h1, h2⟩ := h
              obtain ⟨h3, h2⟩ := obA_ok h2
              refine AO.step (gcallN_ok (q := .func f) (Sub.full st) (.inl rfl) (fun _ _ => rfl) hg hds hfit h1 h3) (runO_ok hP os _ K h2 hK)
            · exact h.elim
          · exact h.elim
       · obtain ⟨t, a, T, j', w', ho, hgd, ha, hq⟩ := callG_eq hc
         obtain ⟨dst, op, ty, ps, af, gd⟩ := o
         simp only at ho h hds hgd
         subst ho ha hgd
         split at h
         · next hgn => cases hgn
         · next j want hgn =>
          cases hgn
          split at h
          · next d c _ hg =>
            obtain ⟨as, res, h⟩ := h
            split at h
            · next C hfit =>
              obtain ⟨h1, h2⟩ := h
              obtain ⟨h3, h2⟩ := obA_ok h2
              refine AO.step (gcallN_ok (q := .tmp t) (Sub.full st) (.inr ⟨t, rfl, hq⟩) (fun _ _ => rfl) hg hds hfit h1 h3) (runO_ok hP os _ K h2 hK)
            · exact h.elim
          · exact h.elim
       · obtain ⟨t, a, T, ho, ha, hl, hs⟩ := callV_eq hc
         obtain ⟨dst, op, ty, ps, af, gd⟩ := o
         simp only at ho h hds
         subst ho ha
         split at h
         · obtain ⟨hin, as, hout, res, hev, h⟩ := h
           obtain ⟨R, h1, h2, h3, h4⟩ := goR_ok (st := st) h
           exact AO.step (callVB_ok (Sub.full st) hev hl hs h1 h3 h2 (isSome_of hds)) (runO_ok hP os _ K h4 hK)
         · exact h.elim
      · split at h
        · next d r q since s last es hnx =>
          obtain ⟨⟨e1, e2⟩, h1, h2⟩ := h
          subst e1 e2
          exact nextF_ok hnx hds (fun i hi hs => runO_ok hP os _ K (h1 i hi hs) hK) (fun ha => runO_ok hP os _ K (h2 ha) hK)
        · split at h
          · next d m hn =>
            have hd : Nat.blt d n = true := by
              rw [nilF_dst hn] at hds; exact hds
            exact nilF_ok hP hn hd fun g hg => runO_ok hP os ⟨(d, .b g) :: st.slots, st.heap⟩ K (h g hg) hK
          · split at h
            · next d hdd =>
              cases hm : memN d H.man with
              | true =>
                rw [hm] at h
                obtain ⟨st', h1, h2⟩ := h
                exact AO.step (h1 E) (runO_ok hP os st' K h2 hK)
              | false => rw [hm] at h; exact gen h
            · exact gen h
end

/-! ### Code -/
def WkG (kp : List Nat) (st st' : ES) : Prop := match wkF kp st st' with
  | some C => obA C True
  | none => False
section
variable (P : Program) (kp : List Nat) (n : Nat) (tab : TT) (H : Hi)
def regC (D : Nat → Array Oper → ES → (ES → Prop) → Prop) (id : Nat) (ops : Array Oper) (st : ES) (K : ES → Prop) : Bool → Prop
  | false => runO P kp n tab H ops ops.toList st K
  | true => D id ops st K
/-- What is to be shown of code; the regions that draw their order are said by D. A region of the list 'cu' may begin with less known. -/
def wpC (D : Nat → Array Oper → ES → (ES → Prop) → Prop) : Code → (Exit → ES → Prop) → ES → Prop
  | .skip, K, st => K .normal st
  | .region id ops draw, K, st => bif memN id H.cu then (∃ st' : ES, WkG kp st st' ∧ regC P kp n tab H D id ops st' (K .normal) draw) else regC P kp n tab H D id ops st (K .normal) draw
  | .seq a b, K, st => wpC D a (fun e st' => match e with | .normal => wpC D b K st' | e => K e st') st
  | .cond c a b, K, st => match evOf st.slots c with
    | .v (.bool g) => (g = true → wpC D a K st) ∧ (g = false → wpC D b K st)
    | _ => False
  | .block id c, K, st => wpC D c (fun e st' => match e with | .exit i => bif Nat.beq i id then K .normal st' else K (.exit i) st' | e => K e st') st
  | .loop c, K, st => ∃ (α : Type) (I : α → ES) (ok : α → Prop) (μ : α → Nat) (x0 : α), ok x0 ∧ WkG kp st (I x0) ∧
      ∀ x, ok x → wpC D c (fun e st' => match e with | .normal => ∃ y, ok y ∧ μ y < μ x ∧ WkG kp st' (I y) | e => K e st') (I x)
  | .exit id, K, st => K (.exit id) st
  | .ret, K, st => K .ret st
  | _, _, _ => False
end
section
variable {P : Program} {E : Env} {kp : List Nat} {n : Nat} {tab : TT} {H : Hi}
theorem WkG_ok {st st' : ES} (h : WkG kp st st') : Wk E kp n st.as st'.as := by
  unfold WkG at h
  split at h
  · next C hc => exact wkF_ok hc (obA_ok h).1
  · exact h.elim
/-- What a region that draws its order has to give. -/
def DOk (P : Program) (kp : List Nat) (n : Nat) (D : Nat → Array Oper → ES → (ES → Prop) → Prop) : Prop :=
  ∀ (E : Env) (id : Nat) (ops : Array Oper) (st : ES) (K : ES → Prop) (Q : Exit → Act → World → Prop), D id ops st K → (∀ st', K st' → To E kp n Q .normal st'.as) → AW P E kp n (.region id ops true) Q st.as
theorem wpC_ok {D : Nat → Array Oper → ES → (ES → Prop) → Prop} (hP : tab.ok P) (hD : DOk P kp n D) : ∀ (c : Code) (K : Exit → ES → Prop) (Q : Exit → Act → World → Prop) (st : ES), wpC P kp n tab H D c K st → (∀ e st', K e st' → To E kp n Q e st'.as) → AW P E kp n c Q st.as
  | .skip, K, Q, st, h, hK => AW.skip (hK _ _ h)
  | .region id ops draw, K, Q, st, h, hK => by
    have main : ∀ st : ES, regC P kp n tab H D id ops st (K .normal) draw → AW P E kp n (.region id ops draw) Q st.as := fun st h => by
      cases draw with
      | false =>
        have e : ops = ops.toList.toArray := by simp
        have k := runO_ok (E := E) (Q := Q) hP ops.toList st _ h (fun st' h' => hK _ _ h')
        have k2 : AO P E kp n ops.toList.toArray Q ops.toList st.as := by rw [← e]; exact k
        rw [e]; exact AW.region k2
      | true => exact hD E id ops st _ Q h (fun st' h' => hK _ _ h')
    unfold wpC at h
    cases hc : memN id H.cu with
    | true =>
      rw [hc] at h
      obtain ⟨st', hw, h⟩ := h
      exact AW.wk (WkG_ok hw) (main st' h)
    | false => rw [hc] at h; exact main st h
  | .seq a b, K, Q, st, h, hK => by
    unfold wpC at h
    refine AW.seq (wpC_ok hP hD a _ _ st h fun e st' h' => ?_)
    cases e with
    | normal => exact To.seq (wpC_ok hP hD b K Q st' h' hK)
    | _ => exact hK _ _ h'
  | .cond c a b, K, Q, st, h, hK => by
    unfold wpC at h
    split at h
    · next g hc =>
      refine AW.cond (g := g) (by rw [as_ev]; show Gv (evOf st.slots c).av _; rw [hc]; exact Gv.r) (fun hg => wpC_ok hP hD a K Q st (h.1 hg) hK) (fun hg => wpC_ok hP hD b K Q st (h.2 hg) hK)
    · exact h.elim
  | .block id c, K, Q, st, h, hK => by
    unfold wpC at h
    refine AW.block (wpC_ok hP hD c _ _ st h fun e st' h' => ?_)
    cases e with
    | exit i =>
      simp only at h'
      cases hb : Nat.beq i id with
      | true =>
        rw [hb] at h'
        have e := nat_eq hb; subst e
        exact To.block_exit (hK _ _ h')
      | false =>
        rw [hb] at h'
        exact To.block_exit_ne (fun e => by subst e; simp at hb) (hK _ _ h')
    | _ => exact hK _ _ h'
  | .loop c, K, Q, st, h, hK => by
    unfold wpC at h
    obtain ⟨α, I, ok, μ, x0, h0, hst, hround⟩ := h
    refine AW.loop (fun x => (I x).as) ok μ x0 h0 (WkG_ok hst) fun x hx K' hK' => ?_
    refine wpC_ok hP hD c _ _ (I x) (hround x hx) fun e st' h' => ?_
    cases e with
    | normal =>
      obtain ⟨y, hy, hlt, hw⟩ := h'
      exact To.then_normal (To.wk (WkG_ok hw) (hK' y hy hlt))
    | _ => exact hK _ _ h'
  | .exit id, K, Q, st, h, hK => AW.exit (hK _ _ h)
  | .ret, K, Q, st, h, hK => AW.ret (hK _ _ h)
  | .rangeFunc _ _ _ _, _, _, _, h, _ => by unfold wpC at h; exact h.elim
  | .scope _, _, _, _, h, _ => by unfold wpC at h; exact h.elim
  | .label _, _, _, _, h, _ => by unfold wpC at h; exact h.elim
  | .goto _, _, _, _, h, _ => by unfold wpC at h; exact h.elim
  | .refuse _, _, _, _, h, _ => by unfold wpC at h; exact h.elim
end
end Go.Proofs.YtcebndkiagbddaaGreatDoor

/- The walk by computation: results, and contracts. It names no function of the program. -/
namespace Go.Proofs.YtcebndkiagbddaaGreatDoor
open Go.RowKit
set_option linter.unusedVariables false
set_option linter.unusedSimpArgs false

/-- The results, as the function's end has them. -/
def resV (tab : TT) (st : ES) : List ResultVar → Option (List EV)
  | [] => some []
  | .tmp t :: l => match resV tab st l with
    | some m => some (look .any st.slots t :: m)
    | none => none
  | .cell c T :: l => match look .any st.slots c with
    | .own r off => match ob_ st.heap r with
      | .bz n f _ => match tab.find T with
        | some ti => bif ti.agg && Nat.beq off 0 && Nat.beq ti.sz n then (match resV tab st l with
          | some m => some (.az n f :: m)
          | none => none) else none
        | none => none
      | .box cells _ => match tab.find T with
        | some ti => match getE ti true off cells with
          | some (_, x) => match resV tab st l with
            | some m => some (x :: m)
            | none => none
          | none => none
        | none => none
      | _ => none
    | _ => none
def oneV : List EV → EV
  | [x] => x
  | l => .tup l
/-- The kept names that are spoken of at the end. -/
def idK (hout : List (Nat × EB)) : List Nat → List (Nat × Nat)
  | [] => []
  | q :: l => bif hasK q hout then (q, q) :: idK hout l else idK hout l
/-- What is to be shown at a function's end. -/
def RetG (tab : TT) (kp : List Nat) (rs : List ResultVar) (hout : List (Nat × EB)) (res : EV) (st : ES) : Prop :=
  match resV tab st rs with
  | none => False
  | some l => match cvE st.heap (oneV l) res with
    | none => False
    | some (C0, z, F) => match fit (idK hout kp) z res with
      | none => False
      | some (C1, τ) => match fitH (F ++ st.heap) τ hout with
        | none => False
        | some (C2, σ) => bif kpOk kp σ && sgOk (idK hout kp) && ndB st.heap F then obA (C0 ++ (C1 ++ C2)) True else False
section
variable {P : Program} {E : Env} {kp : List Nat} {n : Nat} {tab : TT} {H : Hi}
theorem cell_ok {st : ES} (hP : tab.ok P) {c r off : Nat} {T t : TypeId} {cells : List EV} {ti : TI} {C : List Prop} {x : EV} (hc : look .any st.slots c = .own r off) (hb : ob_ st.heap r = .box cells t) (hti : tab.find T = some ti) (hg : getE ti true off cells = some (C, x)) :
    ResOk P st.as (.cell c T) x.av := by
  have hT := TT.find_ok hP hti
  have hs : Gv (look AV.any st.as.slots c) (.own r off) := by
    have e : look AV.any st.as.slots c = (look EV.any st.slots c).av := look_avs _ _
    rw [e, hc]; exact Gv.r
  have hl : st.as.ob r = .box (avL cells) t := by rw [as_ob]; show (ob_ st.heap r).ob = _; rw [hb]; rfl
  unfold getE at hg
  cases ha : ti.agg with
  | true =>
    rw [ha] at hg
    simp only [cond_true] at hg
    split at hg
    · next l hq =>
      simp only [Bool.true_or, cond_true] at hg; cases hg
      obtain ⟨h1, h2⟩ := tkE_eq hq
      rw [dpE_eq] at h1
      exact ResOk.boxN (l := avL l) hs (by rw [hT.agg, ha]) hT.sz hl (by rw [h1, avL_take, avL_drop]) (by rw [avL_length]; exact h2) Gv.r
    · cases hg
  | false =>
    rw [ha] at hg
    simp only [cond_false] at hg
    split at hg
    · next z hq =>
      simp only [Bool.true_or, cond_true] at hg; cases hg
      rw [nthE_eq] at hq
      exact ResOk.box1 hs (by rw [hT.agg, ha]) hl (by rw [avL_get, hq]; rfl) Gv.r
    · cases hg
theorem resV_ok {st : ES} (hP : tab.ok P) {φ : Ghost} {Pub : Nat → Nat → Prop} {w : World} {a : Act} (I : Inv E kp φ Pub st.as.heap w) (hs : ∀ s, RA w Pub φ (look .any st.as.slots s) (a.tmps.getD s undef)) :
    ∀ {rs : List ResultVar} {l : List EV}, resV tab st rs = some l → ∃ vs : List Value, (rs.mapM (rvRun a.tmps)).run P w = .ok vs w ∧ RAs w Pub φ (avL l) vs
  | [], l, h => by
    unfold resV at h; cases h
    exact ⟨[], by simp, by unfold avL RAs; rfl⟩
  | rv :: rs, l, h => by
    have one : ∀ {x : EV} {m : List EV}, ResOk P st.as rv x.av → resV tab st rs = some m → ∃ vs : List Value, ((rv :: rs).mapM (rvRun a.tmps)).run P w = .ok vs w ∧ RAs w Pub φ (avL (x :: m)) vs := fun {x m} hr hm => by
      obtain ⟨u, hu, hR⟩ := hr E kp a w φ Pub I hs
      obtain ⟨vs, h1, h2⟩ := resV_ok hP I hs hm
      refine ⟨u :: vs, ?_, by unfold avL RAs; exact ⟨u, vs, rfl, hR, h2⟩⟩
      simp [List.mapM_cons, hu, h1]
    cases rv with
    | tmp t =>
      simp only [resV] at h
      split at h
      · next m hm =>
        cases h
        exact one (ResOk.tmp (by
          have e : look AV.any st.as.slots t = (look EV.any st.slots t).av := look_avs _ _
          rw [e]; exact Gv.r)) hm
      · cases h
    | cell c T =>
      simp only [resV] at h
      split at h
      · next r off hc =>
        split at h
        · next m' f t hb =>
          split at h
          · next ti hti =>
            obtain ⟨hg, h⟩ := bif_some h
            split at h
            · next m hm =>
              cases h
              simp only [Bool.and_eq_true] at hg
              have e1 := nat_eq hg.1.2; have e2 := nat_eq hg.2; subst e1
              have hT := TT.find_ok hP hti
              have hs : Gv (look AV.any st.as.slots c) (.own r 0) := by
                have e : look AV.any st.as.slots c = (look EV.any st.slots c).av := look_avs _ _
                rw [e, hc]; exact Gv.r
              have hl : st.as.ob r = .box ((azC m' f).map AV.p) t := by rw [as_ob]; show (ob_ st.heap r).ob = _; rw [hb]; rfl
              exact one (x := .az m' f) (ResOk.boxN (l := (azC m' f).map AV.p) hs (by rw [hT.agg, hg.1.1]) hT.sz hl (by rw [e2, List.drop_zero, List.take_of_length_le (by simp)]) (by simp [e2]) Gv.agg) hm
            · cases h
          · cases h
        · next cells t hb =>
          split at h
          · next ti hti =>
            split at h
            · next C x hg =>
              split at h
              · next m hm => cases h; exact one (cell_ok hP hc hb hti hg) hm
              · cases h
            · cases h
          · cases h
        · cases h
      · cases h
theorem RetG_ok {st : ES} (hP : tab.ok P) {fn : Func} {rs : List ResultVar} {hout : List (Nat × EB)} {res : EV} (hr : fn.results = rs.toArray) (h : RetG tab kp rs hout res st) : To E kp n (bodyPost P fn (EvPost E kp (obs hout) res.av)) .ret st.as := by
  rintro a w ⟨φ, Pub, I, h0, hn, hs⟩
  unfold RetG at h
  split at h
  · exact h.elim
  · next l hl =>
    split at h
    · exact h.elim
    · next C0 z F hcv =>
      split at h
      · exact h.elim
      · next C1 τ hfit =>
        split at h
        · exact h.elim
        · next C2 σ hfh =>
          cases hk0 : kpOk kp σ && sgOk (idK hout kp) && ndB st.heap F with
          | false => rw [hk0] at h; exact h.elim
          | true =>
            rw [hk0] at h
            rw [Bool.and_eq_true] at hk0
            obtain ⟨hk0, hnd⟩ := hk0
            rw [Bool.and_eq_true] at hk0
            have hk := hk0.1
            obtain ⟨hC, _⟩ := obA_ok h
            obtain ⟨vs, h1, h2⟩ := resV_ok hP I hs hl
            -- the value that is returned
            obtain ⟨v, hv, hR⟩ : ∃ v, (results fn a.tmps).run P w = .ok v w ∧ RA w Pub φ (oneV l).av v := by
              have hlen := RAs_length h2
              rw [avL_length] at hlen
              refine ⟨if h : vs.toArray.size = 1 then vs.toArray[0] else .tuple vs.toArray, ?_, ?_⟩
              · rw [results_rv, hr]
                simp [List.mapM_toArray, h1]
              · match l, vs, h2, hlen with
                | [x], [u], h2, _ =>
                  unfold avL RAs at h2
                  obtain ⟨u', us, e, h3, _⟩ := h2
                  cases e
                  simpa [oneV] using h3
                | [], [], h2, _ => simp only [oneV]; unfold EV.av RA; exact ⟨[], by simp, h2⟩
                | x :: y :: l, u :: u' :: us, h2, _ => simp only [oneV]; unfold EV.av RA; exact ⟨u :: u' :: us, by simp, h2⟩
            obtain ⟨f1, Pub', I', H', R'⟩ := cvE_ok (Sub.full st) (F0 := []) res hcv (fun c hc => hC c (List.mem_append_left _ hc)) (fun r e hm => by cases hm) (by rw [List.append_nil]; exact hnd) I hR
            rw [List.append_nil] at I'
            obtain ⟨a1, a2, a3⟩ := fit_ok res hfit (fun c hc => hC c (List.mem_append_right _ (List.mem_append_left _ hc)))
            obtain ⟨b1, b2, b3⟩ := fitH_ok hfh (fun c hc => hC c (List.mem_append_right _ (List.mem_append_right _ hc)))
            have ho : sgOk σ = true := b2 (a2 hk0.2)
            obtain ⟨c1, c2⟩ := b3 σ (Ext.refl _)
            refine ⟨h0, v, hv, v, (fun q => if domN q σ = true then φ (sg σ q) else φ q), Pub', rfl, I'.ren ho hk c1 (fun q hq => ?_), ?_⟩
            · have e1 : look OB.dead (obs hout) q = (look EB.dead hout q).ob := look_obs _ _
              have e2 : look OB.dead (obs (F ++ st.heap)) (sg σ q) = (look EB.dead (F ++ st.heap) (sg σ q)).ob := look_obs _ _
              rw [e1, alive_ob] at hq
              rw [e1, e2]; exact c2 q hq
            · exact (RA_sg (ψ := φ) (fun q hq => (if_pos hq).symm) _ _ (fit_inD res hfit σ b1)).1 (a3 σ b1 _ _ _ _ R')
def slE : Nat → List EV → List (Nat × EV)
  | _, [] => []
  | i, x :: xs => (i, x) :: slE (i + 1) xs
theorem slE_avs : ∀ (i : Nat) (l : List EV), avs (slE i l) = slotsOf i (avL l)
  | _, [] => rfl
  | i, x :: xs => by simp only [slE, avs, avL, slotsOf, slE_avs (i + 1) xs]
/-- No region draws its order. -/
def D0 : Nat → Array Oper → ES → (ES → Prop) → Prop := fun _ _ _ _ => False
theorem D0_ok {m : Nat} : DOk P kp m D0 := fun _ _ _ _ _ _ h _ => h.elim
/-- **How a contract is shown.** -/
theorem Cf.intro {f m : Nat} {fn : Func} {c : Code} {rs : List ResultVar} {hin hout : List (Nat × EB)} {as : List EV} {res : EV} (tab : TT) (H : Hi) (D : Nat → Array Oper → ES → (ES → Prop) → Prop) (hcall : callable P f = true) (hP : tab.ok P) (hf : P.funcs[f]? = some fn) (hm : fn.ntmps = m) (hb : fn.body = some c) (hr : fn.results = rs.toArray)
    (hD : DOk P (hin.map (·.1)) m D) (hk : Nat.ble as.length m = true)
    (h : appK (fun sl => wpC P (hin.map (·.1)) m tab H D c (fun e st => match e with | .ret => RetG tab (hin.map (·.1)) rs hout res st | .normal => RetG tab (hin.map (·.1)) rs hout res st | _ => False) ⟨sl, hin⟩) [] (slE 0 as)) : Cf P f hin as hout res := by
  rw [appK_eq, List.append_nil] at h
  refine ⟨hcall, Ev.intro hf hb hm (by rw [avL_length]; exact Nat.le_of_ble_eq_true hk) (fun E => ?_)⟩
  have ek : (obs hin).map (·.1) = hin.map (·.1) := by
    clear h hD
    induction hin with
    | nil => rfl
    | cons p l ih => simp [obs, ih]
  rw [ek, ← slE_avs]
  refine wpC_ok (E := E) hP hD c _ _ ⟨slE 0 as, hin⟩ h fun e st h' => ?_
  cases e with
  | ret => exact RetG_ok hP hr h'
  | normal => exact To.ret_normal (RetG_ok hP hr h')
  | _ => exact h'.elim
end
end Go.Proofs.YtcebndkiagbddaaGreatDoor

/- Regions that draw their order: operations computed in the text's order; whoever is not ordered touches nothing of the other's. It names no function of the program. -/
namespace Go.Proofs.YtcebndkiagbddaaGreatDoor
open Go.RowKit
set_option linter.unusedVariables false
set_option linter.unusedSimpArgs false

/-- What an operation does, and what it looks at. -/
structure EF where
  sl : List (Nat × EV)
  hp : List (Nat × EB)
  rd : List Nat
  tb : List Nat
  nw : List Nat
def mixS (L : Nat → Bool) (b : List (Nat × EV)) : List EF → List (Nat × EV)
  | [] => b
  | e :: es => if L es.length = true then e.sl ++ mixS L b es else mixS L b es
def mixH (L : Nat → Bool) (b : List (Nat × EB)) : List EF → List (Nat × EB)
  | [] => b
  | e :: es => if L es.length = true then e.hp ++ mixH L b es else mixH L b es
def anyK {α : Type} (f : Nat → Bool) : List (Nat × α) → Bool
  | [] => false
  | p :: l => f p.1 || anyK f l
def anyN (f : Nat → Bool) : List Nat → Bool
  | [] => false
  | p :: l => f p || anyN f l
theorem anyK_of {α : Type} {f : Nat → Bool} {s : Nat} : ∀ {l : List (Nat × α)}, hasK s l = true → f s = true → anyK f l = true
  | [], h, _ => by cases h
  | (k, x) :: l, h, hf => by
    simp only [hasK, Bool.or_eq_true] at h
    simp only [anyK, Bool.or_eq_true]
    rcases h with h | h
    · exact .inl (by rw [nat_eq h]; exact hf)
    · exact .inr (anyK_of h hf)
theorem anyN_of {f : Nat → Bool} {s : Nat} : ∀ {l : List Nat}, s ∈ l → f s = true → anyN f l = true
  | [], h, _ => by cases h
  | k :: l, h, hf => by
    simp only [anyN, Bool.or_eq_true]
    rcases List.mem_cons.1 h with h | h
    · exact .inl (by rw [← h]; exact hf)
    · exact .inr (anyN_of h hf)
/-- Does f, that comes later in the text, touch what e touches? -/
def conf (e f : EF) : Bool :=
  anyK (fun s => memN s f.rd || hasK s f.sl) e.sl || (anyK (fun s => memN s e.rd) f.sl || (anyK (fun r => memN r f.tb || hasK r f.hp) e.hp || (anyK (fun r => memN r e.tb) f.hp || anyN (fun r => hasS r f.sl || hasH r f.hp) e.nw)))
def tbit (m i : Nat) : Bool := Nat.beq (Nat.land (Nat.shiftRight m i) 1) 1
theorem tbit_eq (m i : Nat) : tbit m i = Nat.testBit m i := by
  unfold tbit Nat.testBit
  have h : Nat.land (Nat.shiftRight m i) 1 = (m >>> i) % 2 := by
    show (m >>> i) &&& 1 = _
    exact Nat.and_one_is_mod _
  have h2 : (1 &&& m >>> i) = (m >>> i) % 2 := Nat.one_and_eq_mod_two _
  rw [h, h2]
  have := Nat.mod_two_eq_zero_or_one (m >>> i)
  rcases this with k | k <;> rw [k] <;> rfl
def pairs (m : Nat) (f : EF) : Nat → List EF → Bool
  | _, [] => true
  | 0, _ :: _ => false
  | i + 1, e :: es => (tbit m i || !conf e f) && pairs m f i es
def orM (ms : List Nat) : List Nat → Nat
  | [] => 0
  | j :: l => Nat.lor (Nat.lor (ms.getD j 0) (Nat.shiftLeft 1 j)) (orM ms l)
def ltAll (i : Nat) : List Nat → Bool
  | [] => true
  | j :: l => Nat.blt j i && ltAll i l
/-- Each mask holds such alone as the operation hangs on, at whatever distance; it hangs on earlier ones alone. -/
def masksOk (ops : Array Oper) (ms : List Nat) : Nat → Bool
  | 0 => true
  | i + 1 => (ltAll i (depsOf ops i) && Nat.beq (Nat.lor (orM ms (depsOf ops i)) (ms.getD i 0)) (orM ms (depsOf ops i))) && masksOk ops ms i
theorem ltAll_of {i : Nat} : ∀ {l : List Nat}, ltAll i l = true → ∀ j ∈ l, j < i
  | [], _, j, hj => by cases hj
  | k :: l, h, j, hj => by
    simp only [ltAll, Bool.and_eq_true] at h
    rcases List.mem_cons.1 hj with e | e
    · subst e; have := h.1; rwa [Nat.blt_eq] at this
    · exact ltAll_of h.2 j e
theorem orM_of {ms : List Nat} {k : Nat} : ∀ {l : List Nat}, Nat.testBit (orM ms l) k = true → ∃ j ∈ l, j = k ∨ Nat.testBit (ms.getD j 0) k = true
  | [], h => by simp [orM] at h
  | j :: l, h => by
    unfold orM at h
    have h : Nat.testBit (((ms.getD j 0) ||| (1 <<< j)) ||| orM ms l) k = true := h
    rw [Nat.testBit_or, Nat.testBit_or, Bool.or_eq_true, Bool.or_eq_true] at h
    rcases h with (h | h) | h
    · exact ⟨j, by simp, .inr h⟩
    · refine ⟨j, by simp, .inl ?_⟩
      rw [Nat.testBit_shiftLeft] at h
      simp only [Bool.and_eq_true, decide_eq_true_eq, Nat.testBit_one_eq_true_iff_self_eq_zero] at h
      omega
    · obtain ⟨j', h1, h2⟩ := orM_of h
      exact ⟨j', List.mem_cons_of_mem _ h1, h2⟩
theorem masksOk_at {ops : Array Oper} {ms : List Nat} {i : Nat} : ∀ {m : Nat}, masksOk ops ms m = true → i < m → (∀ j ∈ depsOf ops i, j < i) ∧ ∀ k, tbit (ms.getD i 0) k = true → Nat.testBit (orM ms (depsOf ops i)) k = true
  | 0, _, h => by omega
  | m + 1, ho, h => by
    simp only [masksOk, Bool.and_eq_true] at ho
    by_cases e : i = m
    · subst e
      refine ⟨ltAll_of ho.1.1, fun k hk => ?_⟩
      have e2 := nat_eq ho.1.2
      rw [tbit_eq] at hk
      rw [← e2]
      show Nat.testBit (_ ||| _) k = true
      rw [Nat.testBit_or, hk, Bool.or_true]
    · exact masksOk_at ho.2 (by omega)
theorem mask_in {ops : Array Oper} {ms : List Nat} {m : Nat} (ho : masksOk ops ms m = true) {L : Nat → Bool} (hL : ∀ i, i < m → L i = true → ∀ j ∈ depsOf ops i, L j = true) :
    ∀ i, i < m → (∀ j ∈ depsOf ops i, L j = true) → ∀ k, tbit (ms.getD i 0) k = true → L k = true := by
  intro i
  induction i using Nat.strongRecOn with
  | _ i ih =>
    intro hi hd k hk
    obtain ⟨h1, h2⟩ := masksOk_at ho hi
    obtain ⟨j, hj, h3⟩ := orM_of (h2 k hk)
    rcases h3 with rfl | h3
    · exact hd _ hj
    · have hji := h1 j hj
      exact ih j hji (by omega) (hL j (by omega) (hd j hj)) k (by rw [tbit_eq]; exact h3)

/-! ### The effects of some operations -/
def nthF (i : Nat) : List EF → Option EF
  | [] => none
  | e :: es => if i = es.length then some e else nthF i es
def upto (i : Nat) : List EF → List EF
  | [] => []
  | e :: es => if i ≤ es.length then upto i es else e :: es
theorem nthF_lt {i : Nat} {f : EF} : ∀ {es : List EF}, nthF i es = some f → i < es.length
  | [], h => by cases h
  | e :: es, h => by
    unfold nthF at h
    split at h
    · next k => subst k; simp
    · have := nthF_lt h; simp; omega
theorem mixS_look {L L' : Nat → Bool} {b : List (Nat × EV)} {s : Nat} : ∀ {es : List EF}, (∀ k f, nthF k es = some f → hasK s f.sl = true → L k = L' k) → look EV.any (mixS L b es) s = look EV.any (mixS L' b es) s
  | [], _ => rfl
  | e :: es, h => by
    have ih := mixS_look (L := L) (L' := L') (b := b) (s := s) (es := es) (fun k f hk hs => h k f (by
      unfold nthF; rw [if_neg (by have := nthF_lt hk; omega)]; exact hk) hs)
    have h0 := h es.length e (by simp [nthF])
    unfold mixS
    cases hs : hasK s e.sl with
    | true =>
      rw [h0 hs]
      split
      · rw [look_app, look_app, if_pos hs, if_pos hs]
      · exact ih
    | false =>
      have hn : ∀ X : List (Nat × EV), look EV.any (e.sl ++ X) s = look EV.any X s := fun X => by rw [look_app, if_neg (by rw [hs]; simp)]
      split <;> split <;> (try simp only [hn]) <;> exact ih
theorem mixH_look {L L' : Nat → Bool} {b : List (Nat × EB)} {s : Nat} : ∀ {es : List EF}, (∀ k f, nthF k es = some f → hasK s f.hp = true → L k = L' k) → look EB.dead (mixH L b es) s = look EB.dead (mixH L' b es) s
  | [], _ => rfl
  | e :: es, h => by
    have ih := mixH_look (L := L) (L' := L') (b := b) (s := s) (es := es) (fun k f hk hs => h k f (by
      unfold nthF; rw [if_neg (by have := nthF_lt hk; omega)]; exact hk) hs)
    have h0 := h es.length e (by simp [nthF])
    unfold mixH
    cases hs : hasK s e.hp with
    | true =>
      rw [h0 hs]
      split
      · rw [look_app, look_app, if_pos hs, if_pos hs]
      · exact ih
    | false =>
      have hn : ∀ X : List (Nat × EB), look EB.dead (e.hp ++ X) s = look EB.dead X s := fun X => by rw [look_app, if_neg (by rw [hs]; simp)]
      split <;> split <;> (try simp only [hn]) <;> exact ih
theorem mixS_top {L : Nat → Bool} {b : List (Nat × EV)} {s i : Nat} {e : EF} (hs : hasK s e.sl = true) : ∀ {es : List EF}, nthF i es = some e → L i = true → (∀ k f, i < k → nthF k es = some f → hasK s f.sl = true → L k = false) → look EV.any (mixS L b es) s = look EV.any e.sl s
  | [], h, _, _ => by cases h
  | f :: es, h, hi, hk => by
    unfold nthF at h
    unfold mixS
    split at h
    · next e1 => cases h; rw [← e1, if_pos hi, look_app, if_pos hs]
    · next hne =>
      have hlt := nthF_lt h
      have ih := mixS_top (L := L) (b := b) hs h hi (fun k g h1 h2 h3 => hk k g h1 (by
        unfold nthF; rw [if_neg (by have := nthF_lt h2; omega)]; exact h2) h3)
      split
      · next hL =>
        cases hf : hasK s f.sl with
        | true => rw [hk es.length f hlt (by simp [nthF]) hf] at hL; cases hL
        | false => rw [look_app, if_neg (by rw [hf]; simp)]; exact ih
      · exact ih
theorem mixH_top {L : Nat → Bool} {b : List (Nat × EB)} {s i : Nat} {e : EF} (hs : hasK s e.hp = true) : ∀ {es : List EF}, nthF i es = some e → L i = true → (∀ k f, i < k → nthF k es = some f → hasK s f.hp = true → L k = false) → look EB.dead (mixH L b es) s = look EB.dead e.hp s
  | [], h, _, _ => by cases h
  | f :: es, h, hi, hk => by
    unfold nthF at h
    unfold mixH
    split at h
    · next e1 => cases h; rw [← e1, if_pos hi, look_app, if_pos hs]
    · next hne =>
      have hlt := nthF_lt h
      have ih := mixH_top (L := L) (b := b) hs h hi (fun k g h1 h2 h3 => hk k g h1 (by
        unfold nthF; rw [if_neg (by have := nthF_lt h2; omega)]; exact h2) h3)
      split
      · next hL =>
        cases hf : hasK s f.hp with
        | true => rw [hk es.length f hlt (by simp [nthF]) hf] at hL; cases hL
        | false => rw [look_app, if_neg (by rw [hf]; simp)]; exact ih
      · exact ih
theorem upto_all : ∀ (es : List EF), upto es.length es = es
  | [] => rfl
  | e :: es => by unfold upto; rw [if_neg (by simp)]
theorem mix_upto {i : Nat} (b : List (Nat × EV)) (c : List (Nat × EB)) : ∀ (es : List EF), mixS (fun k => decide (k < i)) b es = mixS (fun _ => true) b (upto i es) ∧ mixH (fun k => decide (k < i)) c es = mixH (fun _ => true) c (upto i es)
  | [] => ⟨rfl, rfl⟩
  | e :: es => by
    obtain ⟨h1, h2⟩ := mix_upto b c es
    by_cases h : i ≤ es.length
    · have e0 : upto i (e :: es) = upto i es := by rw [upto, if_pos h]
      rw [e0]
      refine ⟨?_, ?_⟩
      · rw [← h1]
        show (if decide (es.length < i) = true then _ else _) = _
        rw [if_neg (by simp; omega)]
      · rw [← h2]
        show (if decide (es.length < i) = true then _ else _) = _
        rw [if_neg (by simp; omega)]
    · have e1 : upto i (e :: es) = e :: es := by unfold upto; rw [if_neg h]
      rw [e1]
      have hall : ∀ (l : List EF), l.length ≤ i → mixS (fun k => decide (k < i)) b l = mixS (fun _ => true) b l ∧ mixH (fun k => decide (k < i)) c l = mixH (fun _ => true) c l := by
        intro l
        induction l with
        | nil => intro _; exact ⟨rfl, rfl⟩
        | cons f l ih =>
          intro hl
          simp only [List.length_cons] at hl
          obtain ⟨k1, k2⟩ := ih (by omega)
          refine ⟨?_, ?_⟩
          · show (if decide (l.length < i) = true then _ else _) = (if true = true then _ else _)
            rw [if_pos (by simp; omega), if_pos rfl, k1]
          · show (if decide (l.length < i) = true then _ else _) = (if true = true then _ else _)
            rw [if_pos (by simp; omega), if_pos rfl, k2]
      exact hall _ (by simp only [List.length_cons]; omega)
theorem hasS_append (r : Nat) : ∀ (l m : List (Nat × EV)), hasS r (l ++ m) = (hasS r l || hasS r m)
  | [], m => by simp [hasS]
  | p :: l, m => by simp only [List.cons_append, hasS, hasS_append r l m, Bool.or_assoc]
theorem hasH_append (r : Nat) : ∀ (l m : List (Nat × EB)), hasH r (l ++ m) = (hasH r l || hasH r m)
  | [], m => by simp [hasH]
  | p :: l, m => by simp only [List.cons_append, hasH, hasH_append r l m, Bool.or_assoc]
theorem hasS_mix {r : Nat} {L : Nat → Bool} {b : List (Nat × EV)} : ∀ {es : List EF}, hasS r b = false → (∀ k f, nthF k es = some f → L k = true → hasS r f.sl = false) → hasS r (mixS L b es) = false
  | [], hb, _ => hb
  | e :: es, hb, h => by
    have ih := hasS_mix (L := L) (es := es) hb (fun k f hk hL => h k f (by unfold nthF; rw [if_neg (by have := nthF_lt hk; omega)]; exact hk) hL)
    unfold mixS
    split
    · next hL => rw [hasS_append, ih, h es.length e (by simp [nthF]) hL]; rfl
    · exact ih
theorem hasH_mix {r : Nat} {L : Nat → Bool} {b : List (Nat × EB)} : ∀ {es : List EF}, hasH r b = false → (∀ k f, nthF k es = some f → L k = true → hasH r f.hp = false) → hasH r (mixH L b es) = false
  | [], hb, _ => hb
  | e :: es, hb, h => by
    have ih := hasH_mix (L := L) (es := es) hb (fun k f hk hL => h k f (by unfold nthF; rw [if_neg (by have := nthF_lt hk; omega)]; exact hk) hL)
    unfold mixH
    split
    · next hL => rw [hasH_append, ih, h es.length e (by simp [nthF]) hL]; rfl
    · exact ih
theorem hasS_of_mix {r : Nat} {L : Nat → Bool} {b : List (Nat × EV)} : ∀ {es : List EF}, hasS r (mixS L b es) = false → hasS r b = false ∧ ∀ k f, nthF k es = some f → L k = true → hasS r f.sl = false
  | [], h => ⟨h, fun k f hk => by cases hk⟩
  | e :: es, h => by
    unfold mixS at h
    split at h
    · next hL =>
      rw [hasS_append, Bool.or_eq_false_iff] at h
      obtain ⟨h1, h2⟩ := hasS_of_mix h.2
      refine ⟨h1, fun k f hk hLk => ?_⟩
      unfold nthF at hk
      split at hk
      · cases hk; exact h.1
      · exact h2 k f hk hLk
    · next hL =>
      obtain ⟨h1, h2⟩ := hasS_of_mix h
      refine ⟨h1, fun k f hk hLk => ?_⟩
      unfold nthF at hk
      split at hk
      · next e1 => subst e1; exact absurd hLk hL
      · exact h2 k f hk hLk
theorem hasH_of_mix {r : Nat} {L : Nat → Bool} {b : List (Nat × EB)} : ∀ {es : List EF}, hasH r (mixH L b es) = false → hasH r b = false ∧ ∀ k f, nthF k es = some f → L k = true → hasH r f.hp = false
  | [], h => ⟨h, fun k f hk => by cases hk⟩
  | e :: es, h => by
    unfold mixH at h
    split at h
    · next hL =>
      rw [hasH_append, Bool.or_eq_false_iff] at h
      obtain ⟨h1, h2⟩ := hasH_of_mix h.2
      refine ⟨h1, fun k f hk hLk => ?_⟩
      unfold nthF at hk
      split at hk
      · cases hk; exact h.1
      · exact h2 k f hk hLk
    · next hL =>
      obtain ⟨h1, h2⟩ := hasH_of_mix h
      refine ⟨h1, fun k f hk hLk => ?_⟩
      unfold nthF at hk
      split at hk
      · next e1 => subst e1; exact absurd hLk hL
      · exact h2 k f hk hLk
end Go.Proofs.YtcebndkiagbddaaGreatDoor

/- Regions that draw their order, over typed values: what each operation does is computed in the text's order; soundness. It names no function of the program. -/
namespace Go.Proofs.YtcebndkiagbddaaGreatDoor
open Go.RowKit
set_option linter.unusedVariables false
set_option linter.unusedSimpArgs false

section
variable {P : Program} {E : Env} {kp : List Nat} {n : Nat} {ops : Array Oper}
/-- What is known of an operation, where its slots and blocks are as in cur. -/
structure EFok (P : Program) (E : Env) (kp : List Nat) (n : Nat) (ops : Array Oper) (cur : ES) (o : Oper) (e : EF) : Prop where
  step : ∀ st : ES, (∀ s ∈ e.rd, look EV.any st.slots s = look EV.any cur.slots s) → (∀ r ∈ e.tb, look EB.dead st.heap r = look EB.dead cur.heap r) → (∀ r ∈ e.nw, st.free kp r = true) → Step P E kp n ops o st.as (ES.as ⟨e.sl ++ st.slots, e.hp ++ st.heap⟩)
  new : ∀ r ∈ e.nw, cur.free kp r = true ∧ hasK r e.hp = true
  key : ∀ r, hasK r e.hp = true → r ∈ e.tb ∨ r ∈ e.nw
def allE (b : ES) (es : List EF) : ES := ⟨mixS (fun _ => true) b.slots es, mixH (fun _ => true) b.heap es⟩
def Good (P : Program) (E : Env) (kp : List Nat) (n : Nat) (ops : Array Oper) (ms : List Nat) (b : ES) : List EF → Prop
  | [] => True
  | e :: es => Good P E kp n ops ms b es ∧ (∀ o, ops[es.length]? = some o → EFok P E kp n ops (allE b es) o e) ∧ pairs (ms.getD es.length 0) e es.length es = true
theorem pairs_at {m : Nat} {f : EF} : ∀ {es : List EF}, pairs m f es.length es = true → ∀ k e, nthF k es = some e → tbit m k = true ∨ conf e f = false
  | [], _, k, e, hk => by cases hk
  | g :: es, h, k, e, hk => by
    simp only [List.length_cons, pairs, Bool.and_eq_true, Bool.or_eq_true, Bool.not_eq_true'] at h
    unfold nthF at hk
    split at hk
    · next e1 => cases hk; subst e1; exact h.1
    · exact pairs_at h.2 k e hk
theorem good_at {ms : List Nat} {b : ES} : ∀ {es : List EF}, Good P E kp n ops ms b es → ∀ i, i < es.length → ∃ e, nthF i es = some e ∧ (∀ o, ops[i]? = some o → EFok P E kp n ops (allE b (upto i es)) o e) ∧ ∀ k f, k < i → nthF k es = some f → tbit (ms.getD i 0) k = true ∨ conf f e = false
  | [], _, i, h => by simp at h
  | e :: es, hg, i, h => by
    obtain ⟨h1, h2, h3⟩ := hg
    by_cases hi : i = es.length
    · subst hi
      refine ⟨e, by simp [nthF], ?_, fun k f hk hn => ?_⟩
      · have : upto es.length (e :: es) = es := by unfold upto; rw [if_pos (Nat.le_refl _)]; exact upto_all es
        rw [this]; exact h2
      · unfold nthF at hn
        rw [if_neg (by omega)] at hn
        exact pairs_at h3 k f hn
    · simp only [List.length_cons] at h
      obtain ⟨f, k1, k2, k3⟩ := good_at h1 i (by omega)
      refine ⟨f, by unfold nthF; rw [if_neg hi]; exact k1, ?_, fun k g hk hn => ?_⟩
      · have : upto i (e :: es) = upto i es := by rw [upto, if_pos (by omega)]
        rw [this]; exact k2
      · unfold nthF at hn
        rw [if_neg (by omega)] at hn
        exact k3 k g hk hn
theorem mixS_none (b : List (Nat × EV)) : ∀ es : List EF, mixS (fun _ => false) b es = b
  | [] => rfl
  | e :: es => by unfold mixS; rw [if_neg (by simp)]; exact mixS_none b es
theorem mixH_none (b : List (Nat × EB)) : ∀ es : List EF, mixH (fun _ => false) b es = b
  | [] => rfl
  | e :: es => by unfold mixH; rw [if_neg (by simp)]; exact mixH_none b es
theorem ready_all (ops : Array Oper) : Region.ready .any ops (firstM ops.size ops.size) = [] := by
  unfold Region.ready
  rw [List.filter_eq_nil_iff]
  intro i hi
  have hi := List.mem_range.1 hi
  have : (firstM ops.size ops.size).getD i true = true := by
    unfold firstM
    rw [Array.getD_eq_getD_getElem?]
    simp [hi]
  rw [this]; simp
theorem floatB_of {ms : List Nat} (h : masksOk ops ms ops.size = true) : floatB ops ops.size = true := by
  unfold floatB
  simp only [Bool.and_eq_true, List.all_eq_true, List.mem_range]
  refine ⟨fun i hi => ?_, fun i hi => by simp [hi]⟩
  have h1 := (masksOk_at h hi).1
  have ho : ops[i]? = some ops[i] := Array.getElem?_eq_getElem hi
  rw [ho]
  simp only [Option.map_some, Option.getD_some, Array.all_eq_true, Bool.or_eq_true, Bool.not_eq_true', decide_eq_true_eq]
  intro x hx
  cases hb : Region.binds .any (ops[i].after[x]) with
  | false => exact .inl rfl
  | true =>
    refine .inr (h1 _ ?_)
    unfold depsOf
    rw [ho]
    simp only [Option.map_some, Option.getD_some, List.mem_map]
    exact ⟨_, List.mem_filter.2 ⟨Array.mem_def.1 (Array.getElem_mem hx), hb⟩, rfl⟩
/-- **Whoever is not ordered touches nothing of the other's: then the text's order serves.** -/
theorem float_ok {ms : List Nat} {b : ES} {es : List EF} {id : Nat} {Q : Exit → Act → World → Prop} (hx : P.follows .mixedOrders = true) (hms : masksOk ops ms ops.size = true) (hg : Good P E kp n ops ms b es) (hlen : es.length = ops.size)
    (hk : To E kp n Q .normal (allE b es).as) : AW P E kp n (.region id ops true) Q b.as := by
  intro a w hsat
  let S : (Nat → Bool) → ES := fun L => ⟨mixS L b.slots es, mixH L b.heap es⟩
  let DC : (Nat → Bool) → Prop := fun L => ∀ i, i < ops.size → L i = true → ∀ j ∈ depsOf ops i, L j = true
  have lookS : ∀ (X Y : ES), (∀ s, look EV.any X.slots s = look EV.any Y.slots s) → (∀ r, look EB.dead X.heap r = look EB.dead Y.heap r) → ∀ a w, Sat E kp n Y.as a w → Sat E kp n X.as a w := fun X Y h1 h2 a w h =>
    Sat.congr (fun s => by
      show look AV.any (avs X.slots) s = look AV.any (avs Y.slots) s
      rw [look_avs, look_avs, h1]) (fun r => by
      show look OB.dead (obs X.heap) r = look OB.dead (obs Y.heap) r
      rw [look_obs, look_obs, h2]) h
  have hfin := wpAny_float (P := P) (ops := ops) (Q := Q) (m := ops.size) (floatB_of hms) (Nat.le_refl _) (fun L a w => Sat E kp n (S L).as a w ∧ DC L) ?step ?fin ops.size (Array.replicate ops.size false) a w.drew (by simp) (fun i _ hi => by
      rw [Array.getD_eq_getD_getElem?, Array.getElem?_replicate, if_pos hi]; rfl) (fun i hi => by
      rw [Array.getD_eq_getD_getElem?, Array.getElem?_replicate] at hi; split at hi <;> simp at hi) (unlisted_none _ _ (Nat.le_refl _)) ⟨?start, fun i hi hL => by
      simp only [Array.getD_eq_getD_getElem?, Array.getElem?_replicate] at hL
      rw [if_pos (by omega)] at hL; simp at hL⟩
  case start =>
    obtain ⟨φ, Pub, I, h0, hn, hsl⟩ := hsat
    have h1 : Sat E kp n b.as a w.drew := ⟨φ, Pub, I.drew, h0, hn, fun s => RA_mono adv_drew _ _ (fun _ _ => rfl) (hsl s)⟩
    refine lookS _ b (fun s => ?_) (fun r => ?_) _ _ h1
    · have e := mixS_none b.slots es
      show look EV.any (mixS _ b.slots es) s = _
      rw [mixS_look (L' := fun _ => false) (fun k f hkf _ => ?_), e]
      have := nthF_lt hkf
      simp only [Array.getD_eq_getD_getElem?, Array.getElem?_replicate]
      rw [if_pos (by omega)]; simp
    · have e := mixH_none b.heap es
      show look EB.dead (mixH _ b.heap es) r = _
      rw [mixH_look (L' := fun _ => false) (fun k f hkf _ => ?_), e]
      have := nthF_lt hkf
      simp only [Array.getD_eq_getD_getElem?, Array.getElem?_replicate]
      rw [if_pos (by omega)]; simp
  case fin =>
    intro L a w hall ⟨hS, _⟩
    rw [Nat.sub_self]
    refine ⟨ready_all ops, hk a w (lookS _ (S L) (fun s => ?_) (fun r => ?_) _ _ hS)⟩
    · exact mixS_look (fun k f hkf _ => (hall k (by have := nthF_lt hkf; omega)).symm)
    · exact mixH_look (fun k f hkf _ => (hall k (by have := nthF_lt hkf; omega)).symm)
  case step =>
    intro L a w i o K hi ho hLi hd ⟨hS, hDC⟩ hK
    obtain ⟨e, he, hok, hpr⟩ := good_at hg i (by omega)
    have hok := hok o ho
    have hdL : ∀ j ∈ depsOf ops i, L j = true := fun j hj => by
      unfold depsOf at hj
      rw [ho] at hj
      simp only [Option.map_some, Option.getD_some] at hj
      rw [List.mem_map] at hj
      obtain ⟨x, hx, rfl⟩ := hj
      rw [List.mem_filter] at hx
      obtain ⟨y, hy, hy2⟩ := Array.mem_iff_getElem.1 (Array.mem_def.2 hx.1)
      rw [Array.all_eq_true] at hd
      have := hd y hy
      rw [hy2] at this
      simp only [Bool.or_eq_true, Bool.not_eq_true'] at this
      rcases this with h5 | h5
      · rw [hx.2] at h5; cases h5
      · exact h5
    have hC := mask_in hms hDC i hi hdL
    -- an earlier one that touches what i touches has been; a later one has not
    have early : ∀ k f, k < i → nthF k es = some f → conf f e = true → L k = true := fun k f hki hkf hc => by
      rcases hpr k f hki hkf with h5 | h5
      · exact hC k h5
      · rw [hc] at h5; cases h5
    have late : ∀ k f, i < k → nthF k es = some f → conf e f = true → L k = false := fun k f hki hkf hc => by
      cases hLk : L k with
      | false => rfl
      | true =>
        have hkm : k < ops.size := by have := nthF_lt hkf; omega
        obtain ⟨f', hf', _, hpr'⟩ := good_at hg k (by omega)
        rw [hkf] at hf'; cases hf'
        rcases hpr' i e hki he with h5 | h5
        · have := mask_in hms hDC k hkm (hDC k hkm hLk) i h5
          rw [hLi] at this; cases this
        · rw [hc] at h5; cases h5
    have uS : ∀ s, (∀ f : EF, hasK s f.sl = true → conf f e = true) → (∀ f : EF, hasK s f.sl = true → conf e f = true) → look EV.any (S L).slots s = look EV.any (allE b (upto i es)).slots s := fun s h1 h2 => by
      show look EV.any (mixS L b.slots es) s = look EV.any (mixS (fun _ => true) b.slots (upto i es)) s
      rw [← (mix_upto b.slots b.heap es).1]
      refine mixS_look fun k f hkf hs => ?_
      rcases Nat.lt_trichotomy k i with h5 | h5 | h5
      · rw [early k f h5 hkf (h1 f hs)]; simp [h5]
      · subst h5; rw [hLi]; simp
      · rw [late k f h5 hkf (h2 f hs)]; simp; omega
    have uH : ∀ r, (∀ f : EF, hasK r f.hp = true → conf f e = true) → (∀ f : EF, hasK r f.hp = true → conf e f = true) → look EB.dead (S L).heap r = look EB.dead (allE b (upto i es)).heap r := fun r h1 h2 => by
      show look EB.dead (mixH L b.heap es) r = look EB.dead (mixH (fun _ => true) b.heap (upto i es)) r
      rw [← (mix_upto b.slots b.heap es).2]
      refine mixH_look fun k f hkf hs => ?_
      rcases Nat.lt_trichotomy k i with h5 | h5 | h5
      · rw [early k f h5 hkf (h1 f hs)]; simp [h5]
      · subst h5; rw [hLi]; simp
      · rw [late k f h5 hkf (h2 f hs)]; simp; omega
    have hstep := hok.step (S L) (fun s hs => uS s (fun f hf => ?_) (fun f hf => ?_)) (fun r hr => uH r (fun f hf => ?_) (fun f hf => ?_)) (fun r hr => ?_)
    · refine hstep a w K Q hS (fun a' w' hs' => hK a' w' ⟨lookS _ _ (fun s => ?_) (fun r => ?_) _ _ hs', fun x hx hLx y hy => ?_⟩)
      · show look EV.any (mixS (fun j => j == i || L j) b.slots es) s = look EV.any (e.sl ++ mixS L b.slots es) s
        rw [look_app]
        cases hes : hasK s e.sl with
        | true =>
          rw [if_pos rfl]
          refine mixS_top hes he (by simp) fun k f hik hkf hs => ?_
          have := late k f hik hkf (by
            unfold conf; rw [anyK_of hes (by rw [hs]; simp)]; rfl)
          simp [this]; omega
        | false =>
          rw [if_neg (by simp)]
          refine mixS_look fun k f hkf hs => ?_
          have : k ≠ i := fun h5 => by subst h5; rw [he] at hkf; cases hkf; rw [hes] at hs; cases hs
          simp [this]
      · show look EB.dead (mixH (fun j => j == i || L j) b.heap es) r = look EB.dead (e.hp ++ mixH L b.heap es) r
        rw [look_app]
        cases hes : hasK r e.hp with
        | true =>
          rw [if_pos rfl]
          refine mixH_top hes he (by simp) fun k f hik hkf hs => ?_
          have := late k f hik hkf (by
            unfold conf; rw [anyK_of (f := fun r => memN r f.tb || hasK r f.hp) hes (by rw [hs]; simp)]; simp)
          simp [this]; omega
        | false =>
          rw [if_neg (by simp)]
          refine mixH_look fun k f hkf hs => ?_
          have : k ≠ i := fun h5 => by subst h5; rw [he] at hkf; cases hkf; rw [hes] at hs; cases hs
          simp [this]
      · simp only [Bool.or_eq_true, beq_iff_eq] at hLx ⊢
        rcases hLx with rfl | hLx
        · exact .inr (hdL y hy)
        · exact .inr (hDC x hx hLx y hy)
    · unfold conf; rw [anyK_of hf (by rw [memN_iff.2 hs]; rfl)]; rfl
    · unfold conf; rw [anyK_of (f := fun s => memN s e.rd) hf (memN_iff.2 hs)]; simp
    · unfold conf; rw [anyK_of (f := fun r => memN r e.tb || hasK r e.hp) hf (by rw [memN_iff.2 hr]; rfl)]; simp
    · unfold conf; rw [anyK_of (f := fun r => memN r e.tb) hf (memN_iff.2 hr)]; simp
    · obtain ⟨hfree, hkey⟩ := hok.new r hr
      have hl := uH r (fun f hf => by unfold conf; rw [anyK_of (f := fun r => memN r e.tb || hasK r e.hp) hf (by rw [hkey]; simp)]; simp) (fun f hf => by unfold conf; rw [anyK_of (f := fun r => memN r f.tb || hasK r f.hp) hkey (by rw [hf]; simp)]; simp)
      unfold ES.free at hfree ⊢
      simp only [Bool.and_eq_true, Bool.not_eq_true'] at hfree ⊢
      obtain ⟨⟨⟨f1, f2⟩, f3⟩, f4⟩ := hfree
      have e1 := (mix_upto (i := i) b.slots b.heap es).1
      have e2 := (mix_upto (i := i) b.slots b.heap es).2
      have f2 : hasH r (mixH (fun k => decide (k < i)) b.heap es) = false := by rw [e2]; exact f2
      have f3 : hasS r (mixS (fun k => decide (k < i)) b.slots es) = false := by rw [e1]; exact f3
      obtain ⟨g2, g2'⟩ := hasH_of_mix f2
      obtain ⟨g3, g3'⟩ := hasS_of_mix f3
      have hno : ∀ k f, nthF k es = some f → L k = true → hasH r f.hp = false ∧ hasS r f.sl = false := fun k f hkf hLk => by
        rcases Nat.lt_trichotomy k i with h5 | h5 | h5
        · exact ⟨g2' k f hkf (by simp [h5]), g3' k f hkf (by simp [h5])⟩
        · subst h5; rw [hLi] at hLk; cases hLk
        · have hc : conf e f = false := by
            cases hc : conf e f with
            | false => rfl
            | true => have := late k f h5 hkf hc; rw [hLk] at this; cases this
          unfold conf at hc
          simp only [Bool.or_eq_false_iff] at hc
          have h6 := hc.2.2.2.2
          constructor
          · cases hq : hasH r f.hp with
            | false => rfl
            | true =>
              have := anyN_of (f := fun r => hasS r f.sl || hasH r f.hp) hr (by rw [hq]; simp)
              rw [this] at h6; cases h6
          · cases hq : hasS r f.sl with
            | false => rfl
            | true =>
              have := anyN_of (f := fun r => hasS r f.sl || hasH r f.hp) hr (by rw [hq]; simp)
              rw [this] at h6; cases h6
      refine ⟨⟨⟨?_, hasH_mix g2 fun k f hkf hLk => (hno k f hkf hLk).1⟩, hasS_mix g3 fun k f hkf hLk => (hno k f hkf hLk).2⟩, f4⟩
      rw [hl]; exact f1
  rw [Nat.sub_self, Nat.add_zero] at hfin
  exact wp_region_any hx hfin
end
end Go.Proofs.YtcebndkiagbddaaGreatDoor

/- Regions that draw their order, over typed values: the computation. It names no function of the program. -/
namespace Go.Proofs.YtcebndkiagbddaaGreatDoor
open Go.RowKit
set_option linter.unusedVariables false
set_option linter.unusedSimpArgs false

mutual
def EV.nms : EV → List Nat → List Nat
  | .agg l, k => nmsE l k
  | .tup l, k => nmsE l k
  | .own q _, k => q :: k
  | .osl q _, k => q :: k
  | .fn _ _, k => k
  | .rp _, k => k
  | .mref q, k => q :: k
  | .oss q _ _ _, k => q :: k
  | .po q _ _ _, k => q :: k
  | .cnd _ x, k => EV.nms x k
  | .v _, k => k
  | .u8 _, k => k
  | .u32 _, k => k
  | .u64 _, k => k
  | .az _ _, k => k
  | .bs _, k => k
  | .lz _ _ _, k => k
  | .pp _ _, k => k
  | .pb _ _, k => k
  | .pz _ _ _ _ _, k => k
  | .raw _, k => k
  | .sl _ _, k => k
  | .any, k => k
def nmsE : List EV → List Nat → List Nat
  | [], k => k
  | x :: xs, k => EV.nms x (nmsE xs k)
end
def nmsS : List (Nat × EV) → List Nat
  | [] => []
  | p :: l => p.2.nms (nmsS l)
def EB.nms : EB → List Nat → List Nat
  | .box cells _, k => nmsE cells k
  | .it m _ _ _, k => m :: k
  | .ra _ _ _ _ ns, k => ns ++ k
  | _, k => k
/-- The names that are come to from some. -/
def reach (hp : List (Nat × EB)) : Nat → List Nat → List Nat → List Nat
  | 0, _, seen => seen
  | _ + 1, [], seen => seen
  | f + 1, q :: todo, seen => bif memN q seen then reach hp f todo seen else reach hp f ((ob_ hp q).nms todo) (q :: seen)
def nrmN : List Nat → (List Nat → Prop) → Prop
  | [], k => k []
  | x :: l, k => nrmN l (fun m => k (x :: m))
theorem nrmN_eq : ∀ (l : List Nat) (k : List Nat → Prop), nrmN l k = k l
  | [], k => rfl
  | x :: l, k => nrmN_eq l _
def pkH (hp : List (Nat × EB)) : List Nat → List (Nat × EB)
  | [] => []
  | r :: l => (r, look .dead hp r) :: pkH hp l
/-- Does the operation look at blocks? -/
def needB : Op → Bool
  | .load _ _ => true
  | .store _ _ _ => true
  | .slice _ _ _ _ _ => true
  | .convert _ _ _ => true
  | .call _ => true
  | .lookup _ _ _ _ => true
  | .mapUpdate _ _ _ _ => true
  | .range _ _ => true
  | _ => false
def gdOf (ops : Array Oper) (o : Oper) (l : List Nat) : List Nat :=
  match o.guard with
  | some (j, _) => match (ops[j]?).bind (·.dst) with
    | some s => s :: l
    | none => l
  | none => l
/-- A call of a function, or a function made of one and what it catches. -/
def isCallV : Op → Bool
  | .call c => match c.callee with
    | .value _ => true
    | _ => false
  | .makeFunc _ _ _ => true
  | .entry _ => true
  | _ => false
def tbOf (sl : List (Nat × EV)) (hp : List (Nat × EB)) (rd : List Nat) (o : Oper) : List Nat :=
  match isCallV o.op with
  | true => reach hp 60 (nmsS (pkV sl rd)) []
  | false => bif needB o.op then nmsS (pkV sl rd) else []
/-- The keys that are new. -/
def nwK (bs : List (Nat × EB)) : List (Nat × EB) → (List Nat → Prop) → Prop
  | [], k => k []
  | p :: l, k => bif (ob_ bs p.1).alive then nwK bs l k else nwK bs l (fun m => k (p.1 :: m))
def nwL (bs : List (Nat × EB)) : List (Nat × EB) → List Nat
  | [] => []
  | p :: l => bif (ob_ bs p.1).alive then nwL bs l else p.1 :: nwL bs l
theorem nwK_eq (bs : List (Nat × EB)) : ∀ (l : List (Nat × EB)) (k : List Nat → Prop), nwK bs l k = k (nwL bs l)
  | [], k => rfl
  | p :: l, k => by
    unfold nwK nwL
    cases (ob_ bs p.1).alive with
    | true => exact nwK_eq bs l _
    | false => exact nwK_eq bs l _
def frN (st : ES) (kp : List Nat) : List Nat → Bool
  | [] => true
  | r :: l => st.free kp r && frN st kp l
def goD (kp : List Nat) (m i : Nat) (rd tb : List Nat) (es : List EF) (sl : List (Nat × EV)) (hp : List (Nat × EB)) (K : List EF → ES → Prop) : Option RS → Prop
  | some ⟨C, rs, rh⟩ => appK (fun rs => appK (fun rh => nwK (pkH hp tb) rh (fun nw =>
      bif frN ⟨sl, hp⟩ kp nw && pairs m ⟨rs, rh, rd, tb, nw⟩ i es then obA C (appK (fun s => appK (fun h => K (⟨rs, rh, rd, tb, nw⟩ :: es) ⟨s, h⟩) hp rh) sl rs) else False)) [] rh) [] rs
  | none => False
section
variable (P : Program) (kp : List Nat) (n : Nat) (tab : TT) (H : Hi) (ops : Array Oper)
/-- A region that draws its order. -/
def runD : List Oper → List Nat → Nat → List EF → ES → (ES → Prop) → Prop
  | [], _, _, _, st, K => K st
  | _ :: _, [], _, _, _, _ => False
  | o :: os, m :: ms, i, es, ⟨sl, hp⟩, K => bif isSome' o.dst n then
      nrmN (gdOf ops o (opnds o.op.operands.toList)) (fun rd => nrmN (tbOf sl hp rd o) (fun tb =>
      match callE (pkV sl rd) o with
      | some (f, args, ce) => match o.guard with
        | none => ∃ hin as hout res, Cf P f hin as hout res ∧ goD kp m i rd tb es sl hp (fun es' st' => runD os ms (i + 1) es' st' K) (callB H.bo (pkV sl rd) (pkH hp tb) o.dst args (ceL ce) hin as hout res)
        | some (j, want) => match ce, o.dst, guardB ops (pkV sl rd) j want with
          | none, some d, some c => ∃ as res, (match gfitF (memN d H.bo) (stripV (pkV (pkV sl rd) (opnds args))) (pkH hp tb) args as res with
            | some C => ((c = true → Cf P f [] as [] res) ∧ obA (impP (c = true) (stripC (pkV (pkV sl rd) (opnds o.op.operands.toList)) ++ C)) (goD kp m i rd tb es sl hp (fun es' st' => runD os ms (i + 1) es' st' K) (some ⟨[], [(d, .cnd c res)], []⟩)))
            | none => False)
          | _, _, _ => False
      | none => match nilF tab (pkV sl rd) o with
        | some _ => False
        | none => goD kp m i rd tb es sl hp (fun es' st' => runD os ms (i + 1) es' st' K) (stepF tab H ops (pkV sl rd) (pkH hp tb) o))) else False
end
theorem look_pkV_mem {vs : List (Nat × EV)} {t : Nat} : ∀ {l : List Nat}, t ∈ l → look EV.any (pkV vs l) t = look EV.any vs t
  | s :: l, h => by
    simp only [pkV, look_cons]
    split
    · next e => subst e; rfl
    · next e =>
      rcases List.mem_cons.1 h with h | h
      · exact absurd h.symm e
      · exact look_pkV_mem h
theorem look_pkV_not {vs : List (Nat × EV)} {t : Nat} : ∀ {l : List Nat}, t ∉ l → look EV.any (pkV vs l) t = .any
  | [], _ => rfl
  | s :: l, h => by
    simp only [pkV, look_cons]
    simp only [List.mem_cons, not_or] at h
    rw [if_neg (fun e => h.1 e.symm)]
    exact look_pkV_not h.2
theorem look_pkH_mem {hp : List (Nat × EB)} {t : Nat} : ∀ {l : List Nat}, t ∈ l → look EB.dead (pkH hp l) t = look EB.dead hp t
  | s :: l, h => by
    simp only [pkH, look_cons]
    split
    · next e => subst e; rfl
    · next e =>
      rcases List.mem_cons.1 h with h | h
      · exact absurd h.symm e
      · exact look_pkH_mem h
theorem look_pkH_not {hp : List (Nat × EB)} {t : Nat} : ∀ {l : List Nat}, t ∉ l → look EB.dead (pkH hp l) t = .dead
  | [], _ => rfl
  | s :: l, h => by
    simp only [pkH, look_cons]
    simp only [List.mem_cons, not_or] at h
    rw [if_neg (fun e => h.1 e.symm)]
    exact look_pkH_not h.2
theorem sub_of {cur st : ES} {rd tb : List Nat} (h1 : ∀ s ∈ rd, look EV.any st.slots s = look EV.any cur.slots s) (h2 : ∀ r ∈ tb, look EB.dead st.heap r = look EB.dead cur.heap r) : Sub (pkV cur.slots rd) (pkH cur.heap tb) st := by
  refine ⟨fun x => ?_, fun r => ?_⟩
  · cases x with
    | tmp t =>
      show look EV.any (pkV cur.slots rd) t = .any ∨ look EV.any st.slots t = look EV.any (pkV cur.slots rd) t
      by_cases h : t ∈ rd
      · exact .inr (by rw [look_pkV_mem h, h1 t h])
      · exact .inl (look_pkV_not h)
    | const c => exact .inr rfl
    | func f => exact .inr rfl
    | global g => exact .inl rfl
  · show look EB.dead (pkH cur.heap tb) r = .dead ∨ look EB.dead st.heap r = look EB.dead (pkH cur.heap tb) r
    by_cases h : r ∈ tb
    · exact .inr (by rw [look_pkH_mem h, h2 r h])
    · exact .inl (look_pkH_not h)
theorem gd_sub {ops : Array Oper} {o : Oper} {l : List Nat} {s : Nat} (h : s ∈ l) : s ∈ gdOf ops o l := by
  unfold gdOf
  split
  · split
    · exact List.mem_cons_of_mem _ h
    · exact h
  · exact h
theorem nwL_of {bs : List (Nat × EB)} {r : Nat} : ∀ {l : List (Nat × EB)}, r ∈ nwL bs l → hasK r l = true ∧ (ob_ bs r).alive = false
  | [], h => by cases h
  | (k, x) :: l, h => by
    unfold nwL at h
    cases ha : (ob_ bs k).alive with
    | true =>
      rw [ha] at h
      have := nwL_of (bs := bs) (l := l) h
      exact ⟨by simp [hasK, this.1], this.2⟩
    | false =>
      rw [ha] at h
      simp only [cond_false, List.mem_cons] at h
      rcases h with rfl | h
      · exact ⟨by simp [hasK], ha⟩
      · have := nwL_of h
        exact ⟨by simp [hasK, this.1], this.2⟩
theorem nwL_key {bs : List (Nat × EB)} {r : Nat} : ∀ {l : List (Nat × EB)}, hasK r l = true → (ob_ bs r).alive = true ∨ r ∈ nwL bs l
  | [], h => by cases h
  | (k, x) :: l, h => by
    simp only [hasK, Bool.or_eq_true] at h
    unfold nwL
    rcases h with h | h
    · have := nat_eq h; subst this
      cases ha : (ob_ bs k).alive with
      | true => exact .inl rfl
      | false => exact .inr (by simp)
    · rcases nwL_key (bs := bs) h with h1 | h1
      · exact .inl h1
      · refine .inr ?_
        cases ha : (ob_ bs k).alive with
        | true => exact h1
        | false => exact List.mem_cons_of_mem _ h1
theorem frN_of {st : ES} {kp : List Nat} : ∀ {l : List Nat}, frN st kp l = true → ∀ r ∈ l, st.free kp r = true
  | [], _, r, h => by cases h
  | q :: l, h, r, hr => by
    simp only [frN, Bool.and_eq_true] at h
    rcases List.mem_cons.1 hr with e | e
    · rw [e]; exact h.1
    · exact frN_of h.2 r e
theorem hasK_mem' {α : Type} {p : Nat × α} : ∀ {l : List (Nat × α)}, p ∈ l → hasK p.1 l = true
  | q :: l, h => by
    simp only [hasK, Bool.or_eq_true]
    rcases List.mem_cons.1 h with e | e
    · subst e; exact .inl (Nat.beq_refl _)
    · exact .inr (hasK_mem' e)
section
variable {P : Program} {E : Env} {kp : List Nat} {n : Nat} {ops : Array Oper} {tab : TT} {H : Hi}
theorem goD_ok {m i : Nat} {rd tb : List Nat} {es : List EF} {st : ES} {K : List EF → ES → Prop} {R : Option RS} (h : goD kp m i rd tb es st.slots st.heap K R) :
    ∃ R' nw, R = some R' ∧ (∀ c ∈ R'.C, c) ∧ (∀ r ∈ nw, st.free kp r = true ∧ hasK r R'.hp = true) ∧ (∀ r, hasK r R'.hp = true → r ∈ tb ∨ r ∈ nw) ∧ (∀ p ∈ R'.hp, (ob_ (pkH st.heap tb) p.1).alive = true ∨ p.1 ∈ nw) ∧
      pairs m ⟨R'.sl, R'.hp, rd, tb, nw⟩ i es = true ∧ K (⟨R'.sl, R'.hp, rd, tb, nw⟩ :: es) ⟨R'.sl ++ st.slots, R'.hp ++ st.heap⟩ := by
  unfold goD at h
  split at h
  · next C rs rh =>
    rw [appK_eq, List.append_nil, appK_eq, List.append_nil, nwK_eq] at h
    cases hb : frN ⟨st.slots, st.heap⟩ kp (nwL (pkH st.heap tb) rh) && pairs m ⟨rs, rh, rd, tb, nwL (pkH st.heap tb) rh⟩ i es with
    | false => rw [hb] at h; exact h.elim
    | true =>
      rw [hb] at h
      obtain ⟨h1, h2⟩ := obA_ok h
      rw [appK_eq, appK_eq] at h2
      rw [Bool.and_eq_true] at hb
      have hal : ∀ r, (ob_ (pkH st.heap tb) r).alive = true → r ∈ tb := fun r hr => by
        refine Classical.byContradiction fun hn => ?_
        have : ob_ (pkH st.heap tb) r = .dead := look_pkH_not hn
        rw [this] at hr; cases hr
      refine ⟨⟨C, rs, rh⟩, nwL (pkH st.heap tb) rh, rfl, h1, fun r hr => ⟨frN_of hb.1 r hr, (nwL_of hr).1⟩, fun r hr => ?_, fun p hp => nwL_key (hasK_mem' hp), hb.2, h2⟩
      rcases nwL_key (bs := pkH st.heap tb) hr with h3 | h3
      · exact .inl (hal r h3)
      · exact .inr h3
  · exact h.elim
theorem opnds_callQ {q : Operand} {a : Array Operand} {T : Array TypeId} {s : Nat} (h : s ∈ opnds (q :: a.toList)) : s ∈ opnds (Op.call { callee := .value q, args := a, argTypes := T }).operands.toList := by
  have e : (Op.call { callee := .value q, args := a, argTypes := T }).operands.toList = q :: a.toList := by simp [Op.operands, Call.operands]
  rw [e]; exact h
theorem drop_cons {α : Type} {l : List α} {i : Nat} {x : α} {r : List α} (h : l.drop i = x :: r) : l[i]? = some x ∧ l.drop (i + 1) = r := by
  have h1 : (l.drop i)[0]? = some x := by rw [h]; rfl
  have h2 : (l.drop i).drop 1 = r := by rw [h]; rfl
  rw [List.getElem?_drop] at h1
  rw [List.drop_drop] at h2
  exact ⟨by simpa using h1, h2⟩
theorem runD_ok (hP : tab.ok P) {mA : List Nat} {b : ES} : ∀ (os : List Oper) (ms : List Nat) (i : Nat) (es : List EF) (st : ES) (K : ES → Prop), runD P kp n tab H ops os ms i es st K →
    ops.toList.drop i = os → mA.drop i = ms → i ≤ ops.size → es.length = i → Good P E kp n ops mA b es → st = allE b es → ∃ es', Good P E kp n ops mA b es' ∧ es'.length = ops.size ∧ K (allE b es')
  | [], ms, i, es, st, K, h, ho, _, hi, hl, hg, hst => by
    unfold runD at h
    subst hst
    refine ⟨es, hg, ?_, h⟩
    have h1 := List.drop_eq_nil_iff.1 ho
    simp at h1
    omega
  | o :: os, [], i, es, st, K, h, _, _, _, _, _, _ => by unfold runD at h; exact h.elim
  | o :: os, m :: ms, i, es, ⟨sl, hp⟩, K, h, ho, hm, hi, hl, hg, hst => by
    unfold runD at h
    let st : ES := ⟨sl, hp⟩
    have hst' : allE b es = st := hst.symm
    obtain ⟨ho1, ho2⟩ := drop_cons ho
    obtain ⟨hm1, hm2⟩ := drop_cons hm
    have hi1 : i < ops.size := by
      have := (List.getElem?_eq_some_iff.1 ho1).1
      simpa using this
    have hoi : ops[i]? = some o := by simpa using ho1
    have hmi : mA.getD i 0 = m := by rw [List.getD_eq_getElem?_getD, hm1]; rfl
    cases hds : isSome' o.dst n with
    | false => rw [hds] at h; exact h.elim
    | true =>
      rw [hds] at h
      simp only [cond_true] at h
      rw [nrmN_eq, nrmN_eq] at h
      generalize hrd : gdOf ops o (opnds o.op.operands.toList) = rd at h
      generalize tbOf sl hp rd o = tb at h
      have hmem : ∀ s ∈ opnds o.op.operands.toList, s ∈ rd := fun s hs => by rw [← hrd]; exact gd_sub hs
      -- an operation that has been computed
      have more : ∀ {R : Option RS}, goD kp m i rd tb es sl hp (fun es' st' => runD P kp n tab H ops os ms (i + 1) es' st' K) R →
          (∀ R', R = some R' → ∀ st2 : ES, Sub (pkV sl rd) (pkH hp tb) st2 → (∀ s ∈ opnds o.op.operands.toList, look EV.any (pkV sl rd) s = look EV.any st2.slots s) → (∀ c ∈ R'.C, c) → (∀ p ∈ R'.hp, (ob_ (pkH hp tb) p.1).alive = true ∨ st2.free kp p.1 = true) → Step P E kp n ops o st2.as (R'.app st2).as) →
          ∃ es', Good P E kp n ops mA b es' ∧ es'.length = ops.size ∧ K (allE b es') := fun {R} hgo hstep => by
        obtain ⟨R', nw, e1, hC, hnw, hkey, hal, hpr, hk⟩ := goD_ok (st := st) hgo
        refine runD_ok hP os ms (i + 1) _ _ K hk ho2 hm2 hi1 (by simp [hl]) ⟨hg, fun o' ho' => ?_, by rw [hl, hmi]; exact hpr⟩ ?_
        · rw [hl, hoi] at ho'
          cases ho'
          rw [hst']
          refine ⟨fun st2 h1 h2 h3 => ?_, hnw, hkey⟩
          refine hstep R' e1 st2 (sub_of h1 h2) (fun s hs => ?_) hC (fun p hp' => ?_)
          · rw [look_pkV_mem (hmem s hs)]; exact (h1 s (hmem s hs)).symm
          · rcases hal p hp' with h4 | h4
            · exact .inl h4
            · exact .inr (h3 _ h4)
        · show (⟨R'.sl ++ st.slots, R'.hp ++ st.heap⟩ : ES) = ⟨R'.sl ++ (allE b es).slots, R'.hp ++ (allE b es).heap⟩
          rw [hst']
      split at h
      · next f args ce hce =>
       rcases callE_eq hce with ⟨rfl, hc⟩ | ⟨rfl, hc⟩ | ⟨l, rfl, hc⟩
       · obtain ⟨a, T, hop, ha⟩ := callOf_eq hc
         obtain ⟨dst, op, ty, ps, af, gd⟩ := o
         simp only at hop h hds
         subst hop ha
         split at h
         · obtain ⟨hin, as, hout, res, hev, h⟩ := h
           exact more h fun R' e1 st2 S hv hC hf => callB_ok S hev e1 hC hf (isSome_of hds)
         · next j want =>
          split at h
          · next d c _ hgb =>
            obtain ⟨as, res, h⟩ := h
            split at h
            · next C hfit =>
              obtain ⟨h1, h2⟩ := h
              obtain ⟨h3, h2⟩ := obA_ok h2
              exact more h2 fun R' e1 st2 S hv hC hf => by
                cases e1
                exact gcallN_ok (q := .func f) S (.inl rfl) (fun s hs => hv s (opnds_callQ hs)) hgb hds hfit h1 h3
            · exact h.elim
          · exact h.elim
       · obtain ⟨t, a, T, j', w', hop, hgd, ha, hq⟩ := callG_eq hc
         obtain ⟨dst, op, ty, ps, af, gd⟩ := o
         simp only at hop h hds hgd
         subst hop ha hgd
         split at h
         · next hgn => cases hgn
         · next j want hgn =>
          cases hgn
          split at h
          · next d c _ hgb =>
            obtain ⟨as, res, h⟩ := h
            split at h
            · next C hfit =>
              obtain ⟨h1, h2⟩ := h
              obtain ⟨h3, h2⟩ := obA_ok h2
              exact more h2 fun R' e1 st2 S hv hC hf => by
                cases e1
                exact gcallN_ok (q := .tmp t) S (.inr ⟨t, rfl, hq⟩) (fun s hs => hv s (opnds_callQ hs)) hgb hds hfit h1 h3
            · exact h.elim
          · exact h.elim
       · obtain ⟨t, a, T, hop, ha, hl, hs⟩ := callV_eq hc
         obtain ⟨dst, op, ty, ps, af, gd⟩ := o
         simp only at hop h hds
         subst hop ha
         split at h
         · obtain ⟨hin, as, hout, res, hev, h⟩ := h
           exact more h fun R' e1 st2 S hv hC hf => callVB_ok S hev hl hs e1 hC hf (isSome_of hds)
         · exact h.elim
      · split at h
        · exact h.elim
        · exact more h fun R' e1 st2 S hv hC hf => stepF_ok S hv hP e1 hC hf hds
def DD (P : Program) (kp : List Nat) (n : Nat) (tab : TT) (H : Hi) : Nat → Array Oper → ES → (ES → Prop) → Prop :=
  fun _ ops st K => ∃ ms : List Nat, masksOk ops ms ops.size = true ∧ runD P kp n tab H ops ops.toList ms 0 [] st K
theorem DD_ok (hP : tab.ok P) (hx : P.follows .mixedOrders = true) : DOk P kp n (DD P kp n tab H) := by
  intro E id ops st K Q ⟨ms, h1, h2⟩ hK
  obtain ⟨es, g1, g2, g3⟩ := runD_ok (E := E) (mA := ms) (b := st) hP ops.toList ms 0 [] st K h2 rfl rfl (Nat.zero_le _) rfl trivial rfl
  exact float_ok hx h1 g1 g2 (hK _ g3)
end
end Go.Proofs.YtcebndkiagbddaaGreatDoor

/- The walk by computation once more, told by recursors: what is left of it reads alike for whoever works it out (so that a proof is checked fast). It names no function of the program. -/
namespace Go.Proofs.YtcebndkiagbddaaGreatDoor
open Go.RowKit
set_option linter.unusedVariables false
set_option linter.unusedSimpArgs false

def obR (C : List Prop) (K : Prop) : Prop := List.rec (motive := fun _ => Prop) K (fun c _ ih => Ob c ih) C
theorem obR_eq (K : Prop) : ∀ C : List Prop, obR C K = obA C K
  | [] => rfl
  | c :: cs => congrArg (Ob c) (obR_eq K cs)
def appR {α : Type} (k : List α → Prop) (m : List α) (l : List α) : Prop := List.rec (motive := fun _ => (List α → Prop) → Prop) (fun k => k m) (fun x _ ih k => ih (fun m' => k (x :: m'))) l k
theorem appR_eq {α : Type} (m : List α) : ∀ (l : List α) (k : List α → Prop), appR k m l = appK k m l
  | [], k => rfl
  | x :: l, k => appR_eq m l (fun m' => k (x :: m'))
theorem appR_app {α : Type} (m : List α) : ∀ (l : List α) (k : List α → Prop), appR k m l = k (l ++ m)
  | [], k => rfl
  | x :: l, k => appR_app m l (fun m' => k (x :: m'))
def nrmR (l : List Nat) (k : List Nat → Prop) : Prop := List.rec (motive := fun _ => (List Nat → Prop) → Prop) (fun k => k []) (fun x _ ih k => ih (fun m => k (x :: m))) l k
theorem nrmR_eq : ∀ (l : List Nat) (k : List Nat → Prop), nrmR l k = nrmN l k
  | [], k => rfl
  | x :: l, k => nrmR_eq l (fun m => k (x :: m))
def nwR (bs : List (Nat × EB)) (l : List (Nat × EB)) (k : List Nat → Prop) : Prop := List.rec (motive := fun _ => (List Nat → Prop) → Prop) (fun k => k []) (fun p _ ih k => bif (ob_ bs p.1).alive then ih k else ih (fun m => k (p.1 :: m))) l k
theorem nwR_eq (bs : List (Nat × EB)) : ∀ (l : List (Nat × EB)) (k : List Nat → Prop), nwR bs l k = nwK bs l k
  | [], k => rfl
  | p :: l, k => by
    show (bif (ob_ bs p.1).alive then nwR bs l k else nwR bs l (fun m => k (p.1 :: m))) = (bif (ob_ bs p.1).alive then nwK bs l k else nwK bs l (fun m => k (p.1 :: m)))
    rw [nwR_eq, nwR_eq]
def goRR (kp : List Nat) (sl : List (Nat × EV)) (hp : List (Nat × EB)) (K : ES → Prop) : Option RS → Prop
  | some ⟨C, rs, rh⟩ => bif frOk hp ⟨sl, hp⟩ kp rh then obR C (appR (fun s => appR (fun h => K ⟨s, h⟩) hp rh) sl rs) else False
  | none => False
theorem goRR_eq {kp : List Nat} {sl : List (Nat × EV)} {hp : List (Nat × EB)} {K : ES → Prop} (R : Option RS) : goRR kp sl hp K R = goR kp sl hp K R := by
  cases R with
  | none => rfl
  | some R => simp only [goRR, goR, obR_eq, appK_eq, appR_app]
def goDR (kp : List Nat) (m i : Nat) (rd tb : List Nat) (es : List EF) (sl : List (Nat × EV)) (hp : List (Nat × EB)) (K : List EF → ES → Prop) : Option RS → Prop
  | some ⟨C, rs, rh⟩ => appR (fun rs => appR (fun rh => nwR (pkH hp tb) rh (fun nw =>
      bif frN ⟨sl, hp⟩ kp nw && pairs m ⟨rs, rh, rd, tb, nw⟩ i es then obR C (appR (fun s => appR (fun h => K (⟨rs, rh, rd, tb, nw⟩ :: es) ⟨s, h⟩) hp rh) sl rs) else False)) [] rh) [] rs
  | none => False
theorem goDR_eq {kp : List Nat} {m i : Nat} {rd tb : List Nat} {es : List EF} {sl : List (Nat × EV)} {hp : List (Nat × EB)} {K : List EF → ES → Prop} (R : Option RS) : goDR kp m i rd tb es sl hp K R = goD kp m i rd tb es sl hp K R := by
  cases R with
  | none => rfl
  | some R => simp only [goDR, goD, obR_eq, appK_eq, appR_app, nwR_eq]
section
variable (P : Program) (kp : List Nat) (n : Nat) (tab : TT) (H : Hi) (ops : Array Oper)
/-- One operation, in order. -/
def bodyO (o : Oper) (next : ES → Prop) : ES → Prop
  | ⟨sl, hp⟩ => bif isSome' o.dst n then (match callE sl o with
    | some (f, args, ce) => match o.guard with
      | none => ∃ hin as hout res, Cf P f hin as hout res ∧ goRR kp sl hp next (callB H.bo sl hp o.dst args (ceL ce) hin as hout res)
      | some (j, want) => match ce, o.dst, guardB ops sl j want with
        | none, some d, some c => ∃ as res, (match gfitF (memN d H.bo) (stripV (pkV sl (opnds args))) hp args as res with
          | some C => ((c = true → Cf P f [] as [] res) ∧ obR (impP (c = true) (stripC (pkV sl (opnds o.op.operands.toList)) ++ C)) (next ⟨(d, .cnd c res) :: sl, hp⟩))
          | none => False)
        | _, _, _ => False
    | none => match nextF sl hp o with
     | some (d, r, q, since, s, last, es) => Ob (since = es.length ∧ last = es.length) ((∀ i : Nat, i < es.length → ¬ i ∈ s → next ⟨(d, .tup [.b true, .any, .any]) :: sl, (r, .it q since (i :: s) last) :: hp⟩) ∧ ((∀ i : Nat, i < es.length → i ∈ s) → next ⟨(d, .tup [.b false]) :: sl, hp⟩))
     | none => match nilF tab sl o with
      | some (d, m) => ∀ g : Bool, (g = true → m = 0) → next ⟨(d, .b g) :: sl, hp⟩
      | none => match o.dst with
        | some d => bif memN d H.man then (∃ st' : ES, (∀ E, Step P E kp n ops o (ES.as ⟨sl, hp⟩) st'.as) ∧ next st') else goRR kp sl hp next (stepF tab H ops sl hp o)
        | none => goRR kp sl hp next (stepF tab H ops sl hp o)) else False
def runOR (os : List Oper) (st : ES) (K : ES → Prop) : Prop := List.rec (motive := fun _ => ES → Prop) K (fun o _ ih => bodyO P kp n tab H ops o ih) os st
theorem runOR_eq (K : ES → Prop) : ∀ (os : List Oper) (st : ES), runOR P kp n tab H ops os st K = runO P kp n tab H ops os st K
  | [], st => rfl
  | o :: os, ⟨sl, hp⟩ => by
    have e : (fun st' => runOR P kp n tab H ops os st' K) = fun st' => runO P kp n tab H ops os st' K := funext fun st' => runOR_eq K os st'
    show bodyO P kp n tab H ops o (fun st' => runOR P kp n tab H ops os st' K) ⟨sl, hp⟩ = _
    rw [e]
    simp only [bodyO, goRR_eq, obR_eq]
    rfl
/-- One operation of a region that draws its order. -/
def bodyD (o : Oper) (next : List Nat → Nat → List EF → ES → Prop) : List Nat → Nat → List EF → ES → Prop
  | [], _, _, _ => False
  | m :: ms, i, es, ⟨sl, hp⟩ => bif isSome' o.dst n then
      nrmR (gdOf ops o (opnds o.op.operands.toList)) (fun rd => nrmR (tbOf sl hp rd o) (fun tb =>
      match callE (pkV sl rd) o with
      | some (f, args, ce) => match o.guard with
        | none => ∃ hin as hout res, Cf P f hin as hout res ∧ goDR kp m i rd tb es sl hp (next ms (i + 1)) (callB H.bo (pkV sl rd) (pkH hp tb) o.dst args (ceL ce) hin as hout res)
        | some (j, want) => match ce, o.dst, guardB ops (pkV sl rd) j want with
          | none, some d, some c => ∃ as res, (match gfitF (memN d H.bo) (stripV (pkV (pkV sl rd) (opnds args))) (pkH hp tb) args as res with
            | some C => ((c = true → Cf P f [] as [] res) ∧ obR (impP (c = true) (stripC (pkV (pkV sl rd) (opnds o.op.operands.toList)) ++ C)) (goDR kp m i rd tb es sl hp (next ms (i + 1)) (some ⟨[], [(d, .cnd c res)], []⟩)))
            | none => False)
          | _, _, _ => False
      | none => match nilF tab (pkV sl rd) o with
        | some _ => False
        | none => goDR kp m i rd tb es sl hp (next ms (i + 1)) (stepF tab H ops (pkV sl rd) (pkH hp tb) o))) else False
def runDR (os : List Oper) (ms : List Nat) (i : Nat) (es : List EF) (st : ES) (K : ES → Prop) : Prop :=
  List.rec (motive := fun _ => List Nat → Nat → List EF → ES → Prop) (fun _ _ _ st => K st) (fun o _ ih => bodyD P kp n tab H ops o ih) os ms i es st
theorem runDR_eq (K : ES → Prop) : ∀ (os : List Oper) (ms : List Nat) (i : Nat) (es : List EF) (st : ES), runDR P kp n tab H ops os ms i es st K = runD P kp n tab H ops os ms i es st K
  | [], ms, i, es, st => by unfold runD; rfl
  | o :: os, [], i, es, st => rfl
  | o :: os, m :: ms, i, es, ⟨sl, hp⟩ => by
    have e : (fun ms i es st' => runDR P kp n tab H ops os ms i es st' K) = fun ms i es st' => runD P kp n tab H ops os ms i es st' K := by
      funext ms i es st'; exact runDR_eq K os ms i es st'
    show bodyD P kp n tab H ops o (fun ms i es st' => runDR P kp n tab H ops os ms i es st' K) (m :: ms) i es ⟨sl, hp⟩ = _
    rw [e]
    simp only [bodyD, goDR_eq, obR_eq, nrmR_eq]
    rfl
end
def DR (P : Program) (kp : List Nat) (n : Nat) (tab : TT) (H : Hi) : Nat → Array Oper → ES → (ES → Prop) → Prop :=
  fun _ ops st K => ∃ ms : List Nat, masksOk ops ms ops.size = true ∧ runDR P kp n tab H ops ops.toList ms 0 [] st K
theorem DR_eq {P : Program} {kp : List Nat} {n : Nat} {tab : TT} {H : Hi} : DR P kp n tab H = DD P kp n tab H := by
  funext i ops st K
  simp only [DR, DD, runDR_eq]
theorem DR_ok {P : Program} {kp : List Nat} {n : Nat} {tab : TT} {H : Hi} (hP : tab.ok P) (hx : P.follows .mixedOrders = true) : DOk P kp n (DR P kp n tab H) := by rw [DR_eq]; exact DD_ok hP hx
def WkGR (kp : List Nat) (st st' : ES) : Prop := match wkF kp st st' with
  | some C => obR C True
  | none => False
theorem WkGR_eq (kp : List Nat) (st st' : ES) : WkGR kp st st' = WkG kp st st' := by
  simp only [WkGR, WkG, obR_eq] <;> rfl
section
variable (P : Program) (kp : List Nat) (n : Nat) (tab : TT) (H : Hi) (D : Nat → Array Oper → ES → (ES → Prop) → Prop)
def seqK (nx : ES → Prop) (K : Exit → ES → Prop) : Exit → ES → Prop := fun e st' => match e with
  | .normal => nx st'
  | e => K e st'
def blkK (id : Nat) (K : Exit → ES → Prop) : Exit → ES → Prop := fun e st' => match e with
  | .exit i => bif Nat.beq i id then K .normal st' else K (.exit i) st'
  | e => K e st'
def lopK (kp : List Nat) {α : Type} (I : α → ES) (ok : α → Prop) (μ : α → Nat) (x : α) (K : Exit → ES → Prop) : Exit → ES → Prop := fun e st' => match e with
  | .normal => ∃ y, ok y ∧ μ y < μ x ∧ WkGR kp st' (I y)
  | e => K e st'
def reg0 (id : Nat) (ops : Array Oper) (draw : Bool) (K : Exit → ES → Prop) (st : ES) : Prop := match draw with
    | false => runOR P kp n tab H ops ops.toList st (K .normal)
    | true => D id ops st (K .normal)
def regR (id : Nat) (ops : Array Oper) (draw : Bool) (K : Exit → ES → Prop) (st : ES) : Prop :=
  bif memN id H.cu then (∃ st' : ES, WkGR kp st st' ∧ reg0 P kp n tab H D id ops draw K st') else reg0 P kp n tab H D id ops draw K st
def cndR (c : Operand) (a b : ES → Prop) (st : ES) : Prop := match evOf st.slots c with
    | .v (.bool g) => (g = true → a st) ∧ (g = false → b st)
    | _ => False
def wpR (c : Code) (K : Exit → ES → Prop) (st : ES) : Prop :=
  Code.rec (motive := fun _ => (Exit → ES → Prop) → ES → Prop)
    (fun K st => K .normal st)
    (fun id ops draw K st => regR P kp n tab H D id ops draw K st)
    (fun _ _ ia ib K st => ia (seqK (ib K) K) st)
    (fun c _ _ ia ib K st => cndR c (ia K) (ib K) st)
    (fun id _ ic K st => ic (blkK id K) st)
    (fun _ ic K st => ∃ (α : Type) (I : α → ES) (ok : α → Prop) (μ : α → Nat) (x0 : α), ok x0 ∧ WkGR kp st (I x0) ∧ ∀ x, ok x → ic (lopK kp I ok μ x K) (I x))
    (fun _ _ _ _ _ _ _ _ => False)
    (fun id K st => K (.exit id) st)
    (fun _ _ _ _ => False)
    (fun _ _ _ => False)
    (fun _ _ _ => False)
    (fun K st => K .ret st)
    (fun _ _ _ => False) c K st
theorem wpR_eq : ∀ (c : Code) (K : Exit → ES → Prop) (st : ES), wpR P kp n tab H D c K st = wpC P kp n tab H D c K st
  | .skip, K, st => rfl
  | .region id ops draw, K, st => by
    show regR P kp n tab H D id ops draw K st = _
    have e : ∀ st : ES, reg0 P kp n tab H D id ops draw K st = regC P kp n tab H D id ops st (K .normal) draw := fun st => by
      unfold reg0
      cases draw with
      | false => exact runOR_eq ..
      | true => rfl
    unfold wpC regR
    cases memN id H.cu with
    | true =>
      simp only [cond_true, WkGR_eq, e]
    | false => exact e st
  | .seq a b, K, st => by
    show wpR P kp n tab H D a (seqK (wpR P kp n tab H D b K) K) st = _
    rw [wpR_eq a, show wpR P kp n tab H D b K = wpC P kp n tab H D b K from funext (wpR_eq b K)]
    show _ = wpC P kp n tab H D a _ st
    congr 1
  | .cond c a b, K, st => by
    show cndR c (wpR P kp n tab H D a K) (wpR P kp n tab H D b K) st = _
    rw [show wpR P kp n tab H D a K = wpC P kp n tab H D a K from funext (wpR_eq a K), show wpR P kp n tab H D b K = wpC P kp n tab H D b K from funext (wpR_eq b K)]
    rfl
  | .block id c, K, st => by
    show wpR P kp n tab H D c (blkK id K) st = _
    rw [wpR_eq c]
    show _ = wpC P kp n tab H D c _ st
    congr 1
  | .loop c, K, st => by
    show (∃ (α : Type) (I : α → ES) (ok : α → Prop) (μ : α → Nat) (x0 : α), ok x0 ∧ WkGR kp st (I x0) ∧ ∀ x, ok x → wpR P kp n tab H D c (lopK kp I ok μ x K) (I x)) = _
    have e : ∀ (α : Type) (I : α → ES) (ok : α → Prop) (μ : α → Nat) (x : α), wpR P kp n tab H D c (lopK kp I ok μ x K) (I x) = wpC P kp n tab H D c (fun e st' => match e with | .normal => ∃ y, ok y ∧ μ y < μ x ∧ WkG kp st' (I y) | e => K e st') (I x) := by
      intro α I ok μ x
      rw [wpR_eq c]
      congr 1
      funext e st'
      unfold lopK
      cases e <;> simp only [WkGR_eq]
    simp only [e, WkGR_eq]
    rfl
  | .rangeFunc _ _ _ _, K, st => rfl
  | .exit id, K, st => rfl
  | .scope _, K, st => rfl
  | .label _, K, st => rfl
  | .goto _, K, st => rfl
  | .ret, K, st => rfl
  | .refuse _, K, st => rfl
end
def RetGR (tab : TT) (kp : List Nat) (rs : List ResultVar) (hout : List (Nat × EB)) (res : EV) (st : ES) : Prop :=
  match resV tab st rs with
  | none => False
  | some l => match cvE st.heap (oneV l) res with
    | none => False
    | some (C0, z, F) => match fit (idK hout kp) z res with
      | none => False
      | some (C1, τ) => match fitH (F ++ st.heap) τ hout with
        | none => False
        | some (C2, σ) => bif kpOk kp σ && sgOk (idK hout kp) && ndB st.heap F then obR (C0 ++ (C1 ++ C2)) True else False
theorem RetGR_eq (tab : TT) (kp : List Nat) (rs : List ResultVar) (hout : List (Nat × EB)) (res : EV) (st : ES) : RetGR tab kp rs hout res st = RetG tab kp rs hout res st := by
  simp only [RetGR, RetG, obR_eq] <;> rfl
def endK (tab : TT) (kp : List Nat) (rs : List ResultVar) (hout : List (Nat × EB)) (res : EV) : Exit → ES → Prop := fun e st => match e with
  | .ret => RetGR tab kp rs hout res st
  | .normal => RetGR tab kp rs hout res st
  | _ => False
/-- A call under a condition, by its contract. -/
theorem gx {P : Program} {f : FuncId} {ags : List EV} {res : EV} {c : Bool} {Q : List EV → EV → Prop} (k : c = true → Cf P f [] ags [] res) (h : (c = true → Cf P f [] ags [] res) → Q ags res) : ∃ ags res, Q ags res := ⟨ags, res, h k⟩
/-- What conditions say, in one: a list for simp. -/
theorem bsX : (∀ b : Bool, ((!b) = true) = (b = false)) ∧ (∀ b : Bool, ((!b) = false) = (b = true)) ∧ ((!true) = false) ∧ ((!false) = true) ∧ (∀ a b : Bool, ((a && b) = true) = (a = true ∧ b = true)) ∧ (∀ a b : Bool, ((a || b) = true) = (a = true ∨ b = true)) ∧ (∀ a b : Bool, ((a && b) = false) = (a = false ∨ b = false)) ∧ (∀ a b : Bool, ((a || b) = false) = (a = false ∧ b = false)) ∧ (∀ b : Bool, (!!b) = b) ∧ (∀ b : Bool, (b == true) = b) ∧ (∀ b : Bool, (b == false) = !b) ∧ (∀ (p : Prop) [Decidable p], (decide p = true) = p) ∧ (∀ (p : Prop) [Decidable p], (decide p = false) = ¬p) :=
  ⟨Bool.not_eq_true', Bool.not_eq_false', rfl, rfl, Bool.and_eq_true, Bool.or_eq_true, fun a b => propext (Bool.and_eq_false_iff), fun a b => propext (Bool.or_eq_false_iff), Bool.not_not, fun b => by cases b <;> rfl, fun b => by cases b <;> rfl, fun p _ => decide_eq_true_eq, fun p _ => propext decide_eq_false_iff_not⟩
theorem knF {A B : Prop} (h : B) : (false = true → A) ∧ (false = false → B) := ⟨fun k => Bool.noConfusion k, fun _ => h⟩
theorem knT {A B : Prop} (h : A) : (true = true → A) ∧ (true = false → B) := ⟨fun _ => h, fun k => Bool.noConfusion k⟩
/-- **How a contract is shown.** -/
theorem Cf.introR {P : Program} {f m : Nat} {fn : Func} {c : Code} {rs : List ResultVar} {hin hout : List (Nat × EB)} {as : List EV} {res : EV} (tab : TT) (H : Hi) (D : Nat → Array Oper → ES → (ES → Prop) → Prop) (hcall : callable P f = true) (hP : tab.ok P) (hf : P.funcs[f]? = some fn) (hm : fn.ntmps = m) (hb : fn.body = some c) (hr : fn.results = rs.toArray)
    (hD : DOk P (hin.map (·.1)) m D) (hk : Nat.ble as.length m = true)
    (h : appR (fun sl => wpR P (hin.map (·.1)) m tab H D c (endK tab (hin.map (·.1)) rs hout res) ⟨sl, hin⟩) [] (slE 0 as)) : Cf P f hin as hout res := by
  refine Cf.intro tab H D hcall hP hf hm hb hr hD hk ?_
  rw [appR_app, wpR_eq] at h
  rw [appK_eq]
  have e : endK tab (hin.map (·.1)) rs hout res = fun e st => match e with | .ret => RetG tab (hin.map (·.1)) rs hout res st | .normal => RetG tab (hin.map (·.1)) rs hout res st | _ => False := by
    funext e st
    unfold endK
    cases e <;> simp only [RetGR_eq]
  rw [e] at h
  exact h
end Go.Proofs.YtcebndkiagbddaaGreatDoor

