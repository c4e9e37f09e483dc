/- The walk by computation: regions in order, code, results, contracts. It names no function of the program. -/
import Derived.Test.YtnopdnclefopbaaTb
namespace Go.Proofs.Ytnopdnclefopbaa
open Go.RowKit
set_option linter.unusedVariables false
set_option linter.unusedSimpArgs false

section
variable {P : Program} {E : Env} {kp : List Nat} {n : Nat} {ops : Array Oper} {tab : TT} {H : Hi} {st : ES} {Q : Exit → Act → World → Prop}
theorem goR_ok {K : ES → Prop} {R : Option RS} (h : goR kp st.slots st.heap K R) : ∃ R', R = some R' ∧ (∀ p ∈ R'.hp, (ob_ st.heap p.1).alive = true ∨ st.free kp p.1 = true) ∧ (∀ c ∈ R'.C, c) ∧ K (R'.app st) := by
  unfold goR at h
  split at h
  · next C rs rh =>
    let R' : RS := ⟨C, rs, rh⟩
    cases hf : frOk st.heap st kp rh with
    | false => rw [hf] at h; exact h.elim
    | true =>
      rw [hf] at h
      obtain ⟨h1, h2⟩ := obA_ok h
      rw [appK_eq, appK_eq] at h2
      exact ⟨R', rfl, frOk_ok hf, h1, h2⟩
  · exact h.elim
mutual
theorem sg_nil : ∀ x : AV, x.inD [] = true → x.sg [] = x
  | .p x, _ => by unfold AV.sg; rfl
  | .agg l, h => by unfold AV.inD at h; unfold AV.sg; rw [sgL_nil l h]
  | .tup l, h => by unfold AV.inD at h; unfold AV.sg; rw [sgL_nil l h]
  | .own q off, h => by unfold AV.inD at h; cases h
  | .osl q m, h => by unfold AV.inD at h; cases h
  | .cnd g x, h => by unfold AV.inD at h; unfold AV.sg; rw [sg_nil x h]
  | .any, _ => by unfold AV.sg; rfl
theorem sgL_nil : ∀ l : List AV, inDL [] l = true → sgL [] l = l
  | [], _ => rfl
  | x :: xs, h => by
    unfold inDL at h
    rw [Bool.and_eq_true] at h
    unfold sgL; rw [sg_nil x h.1, sgL_nil xs h.2]
end
theorem isSome_of {dst : Option Nat} (h : isSome' dst n = true) : ∀ x, dst = some x → Nat.blt x n = true := by
  intro x hx; subst hx; exact h
theorem callOf_eq {o : Oper} {f : FuncId} {args : List Operand} (h : callOf o = some (f, args)) : ∃ a T, o.op = .call { callee := .value (.func f), args := a, argTypes := T } ∧ a.toList = args := by
  unfold callOf at h
  split at h
  · next c hc =>
    split at h
    · next f' hf =>
      cases h
      obtain ⟨callee, a, T⟩ := c
      simp only at hf; subst hf
      exact ⟨a, T, hc, rfl⟩
    · cases h
  · cases h
theorem AllGv_of : ∀ {xs : List Operand} {st : AS} {f : Operand → AV}, (∀ x ∈ xs, Gv (st.ev x) (f x)) → ∀ {ys : List AV}, AllGv (xs.map f) ys → AllGv (xs.map st.ev) ys
  | [], _, _, _, _, h => h
  | x :: xs, st, f, hg, ys, h => by
    rw [List.map_cons] at h ⊢
    obtain ⟨y, zs, e, h1, h2⟩ := h
    exact ⟨y, zs, e, (hg x (by simp)).trans h1, AllGv_of (fun z hz => hg z (List.mem_cons_of_mem _ hz)) h2⟩
theorem nilF_ok {o : Oper} {d m : Nat} {rest : List Oper} (hP : tab.ok P) (h : nilF tab st.slots o = some (d, m)) (hd : Nat.blt d n = true) (k : ∀ g : Bool, (g = true → m = 0) → AO P E kp n ops Q rest (st.as.put d (.p (boolP g)))) : AO P E kp n ops Q (o :: rest) st.as := by
  obtain ⟨dst, op, ty, ps, af, gd⟩ := o
  unfold nilF at h
  simp only at h
  split at h
  · next T x y T' =>
    split at h
    · next d' =>
      split at h
      · next e s b z _ _ _ _ hti =>
        obtain ⟨_, hT, _⟩ := (TT.find_ok hP hti).sl e s b z rfl
        split at h
        · next hy =>
          have gy : Gv (st.as.ev y) (.p (.v (.slice none 0 0))) := by
            rw [as_ev]; show Gv (evOf st.slots y).av _; rw [hy]; exact Gv.r
          have gx : Gv (st.as.ev x) (evOf st.slots x).av := by rw [as_ev]; exact Gv.r
          split at h
          · next l hx => cases h; rw [hx] at gx; exact AO.eqNil (m := l.length) gx gy hT hd k
          · next n' sz f hx => cases h; rw [hx] at gx; exact AO.eqNil (m := m) (cells := lzC m sz f) (by have h3 := gx; unfold EV.av EV.pv at h3; exact h3) gy hT hd k
          · next c n' hx => cases h; rw [hx] at gx; exact AO.eqNil gx gy hT hd k
          · cases h
        · cases h
      · cases h
    · cases h
  · cases h
theorem nilF_dst {vs : List (Nat × EV)} {o : Oper} {d m : Nat} (h : nilF tab vs o = some (d, m)) : o.dst = some d := by
  obtain ⟨dst, op, ty, ps, af, gd⟩ := o
  unfold nilF at h
  simp only at h
  split at h
  · split at h
    · split at h
      · split at h
        · split at h
          · cases h; rfl
          · cases h; rfl
          · cases h; rfl
          · cases h
        · cases h
      · cases h
    · cases h
  · cases h
theorem gcall_ok {vs : List (Nat × EV)} {bs : List (Nat × EB)} {a : Array Operand} {T : Array TypeId} {d j : Nat} {want c : Bool} {ty : TypeId} {ps : String} {af : Array Edge} {f : FuncId} {as : List EV} {res : EV} {C : List Prop} (S : Sub vs bs st)
    (hv : ∀ s ∈ opnds a.toList, look EV.any vs s = look EV.any st.slots s) (hg : guardB ops vs j want = some c) (hds : Nat.blt d n = true)
    (hfit : fitL [] (argE (stripV (pkV vs (opnds a.toList))) a.toList) as = some (C, [])) (hch : (res.av.inH [] && inDL [] (avL as) && res.av.inD []) = true)
    (h1 : c = true → Cf P f [] as [] res) (h2 : ∀ x ∈ impP (c = true) (stripC (pkV vs (opnds a.toList)) ++ C), x) :
    Step P E kp n ops ⟨some d, .call { callee := .value (.func f), args := a, argTypes := T }, ty, ps, af, some (j, want)⟩ st.as (st.as.put d (EV.cnd c res).av) := by
  rw [pkV_eq hv] at hfit h2
  simp only [Bool.and_eq_true] at hch
  refine guard_ok (x := res) (guardB_sub S hg) hds fun hc => ?_
  have hev := h1 hc
  have hA := impP_ok hc h2
  have sgv := strip_gv (st := st) (l := opnds a.toList) (fun c hc => hA c (List.mem_append_left _ hc))
  obtain ⟨_, _, a3⟩ := fitL_ok as hfit (fun c hc => hA c (List.mem_append_right _ hc))
  have a4 := a3 [] (Ext.refl _)
  have sgid : ∀ x : AV, x.inD [] = true → x.sg [] = x := sg_nil
  have hargs : AllGv (a.toList.map st.as.ev) (sgL [] (avL as)) := by
    rw [argE_eq, avL_map, List.map_map] at a4
    refine AllGv_of (fun x hx => ?_) a4
    cases x with
    | tmp t =>
      have g1 := (sgv t).1
      show Gv (look AV.any st.as.slots t) _
      have e : look EV.any (stripV (pkV st.slots (opnds a.toList)) ++ st.slots) t = look EV.any (stripV (pkV st.slots (opnds a.toList))) t := by
        rw [look_app, if_pos]
        have hm : t ∈ opnds a.toList := by
          have : ∀ (l : List Operand), Operand.tmp t ∈ l → t ∈ opnds l := by
            intro l
            induction l with
            | nil => intro h; cases h
            | cons z l ih =>
              intro h
              rcases List.mem_cons.1 h with e | e
              · subst e; simp [opnds]
              · cases z <;> simp [opnds, ih e]
          exact this _ hx
        have : ∀ (l : List Nat), t ∈ l → hasK t (stripV (pkV st.slots l)) = true := by
          intro l
          induction l with
          | nil => intro h; cases h
          | cons z l ih =>
            intro h
            rcases List.mem_cons.1 h with e | e
            · subst e; simp [pkV, stripV, hasK]
            · simp [pkV, stripV, hasK, ih e]
        exact this _ hm
      rw [e] at g1; exact g1
    | const c => rw [as_ev]; exact Gv.r
    | func f => rw [as_ev]; exact Gv.r
    | global g => rw [as_ev]; exact Gv.r
  have k := S_callN (P := P) (E := E) (kp := kp) (n := n) (ops := ops) (st := st.as) (d := some d) (ty := ty) (ps := ps) (af := af) (argTypes := T) (hout := []) [] hev.1 hev.2 hargs (by simp only [Bool.and_eq_true]; exact ⟨⟨⟨⟨rfl, hch.1.2⟩, rfl⟩, hch.2⟩, rfl⟩) (by rw [Bool.and_eq_true]; exact ⟨rfl, hch.1.1⟩) rfl (isSome_of hds)
  have ea : a.toList.toArray = a := by simp
  rw [ea] at k
  refine k.cast ?_
  show AS.mk ((d, res.av.sg []) :: st.as.slots) _ = AS.mk ((d, res.av) :: st.as.slots) _
  rw [sgid _ hch.2]; rfl
/-- **A region in order.** -/
theorem runO_ok (hP : tab.ok P) : ∀ (os : List Oper) (st : ES) (K : ES → Prop), runO P kp n tab H ops os st K → (∀ st', K st' → To E kp n Q .normal st'.as) → AO P E kp n ops Q os st.as
  | [], st, K, h, hK => AO.nil (hK st h)
  | o :: os, ⟨sl, hp⟩, K, h, hK => by
    unfold runO at h
    let st : ES := ⟨sl, hp⟩
    cases hds : isSome' o.dst n with
    | false => rw [hds] at h; exact h.elim
    | true =>
      rw [hds] at h
      simp only [cond_true] at h
      have gen : goR kp sl hp (fun st' => runO P kp n tab H ops os st' K) (stepF tab H ops sl hp o) → AO P E kp n ops Q (o :: os) st.as := fun h => by
        obtain ⟨R, h1, h2, h3, h4⟩ := goR_ok (st := st) h
        exact AO.step (stepF_ok (Sub.full st) (fun _ _ => rfl) hP h1 h3 h2 hds) (runO_ok hP os _ K h4 hK)
      split at h
      · next f args hc =>
        obtain ⟨a, T, ho, ha⟩ := callOf_eq hc
        obtain ⟨dst, op, ty, ps, af, gd⟩ := o
        simp only at ho h hds
        subst ho ha
        split at h
        · obtain ⟨hin, as, hout, res, hev, h⟩ := h
          obtain ⟨R, h1, h2, h3, h4⟩ := goR_ok (st := st) h
          exact AO.step (callF_ok (Sub.full st) hev.1 hev.2 h1 h3 h2 (isSome_of hds)) (runO_ok hP os _ K h4 hK)
        · next j want =>
          split at h
          · next d c hg =>
            obtain ⟨as, res, h⟩ := h
            split at h
            · next C hfit =>
              cases hch : res.av.inH [] && inDL [] (avL as) && res.av.inD [] with
              | false => rw [hch] at h; exact h.elim
              | true =>
                rw [hch] at h
                obtain ⟨h1, h2⟩ := h
                obtain ⟨h3, h2⟩ := obA_ok h2
                refine AO.step (gcall_ok (Sub.full st) (fun _ _ => rfl) hg hds hfit hch h1 h3) (runO_ok hP os _ K h2 hK)
            · exact h.elim
          · exact h.elim
      · split at h
        · next d m hn =>
          have hd : Nat.blt d n = true := by
            rw [nilF_dst hn] at hds; exact hds
          exact nilF_ok hP hn hd fun g hg => runO_ok hP os ⟨(d, .b g) :: st.slots, st.heap⟩ K (h g hg) hK
        · split at h
          · next d hdd =>
            cases hm : memN d H.man with
            | true =>
              rw [hm] at h
              obtain ⟨st', h1, h2⟩ := h
              exact AO.step (h1 E) (runO_ok hP os st' K h2 hK)
            | false => rw [hm] at h; exact gen h
          · exact gen h
end

/-! ### Code -/
def WkG (kp : List Nat) (st st' : ES) : Prop := match wkF kp st st' with
  | some C => obA C True
  | none => False
section
variable (P : Program) (kp : List Nat) (n : Nat) (tab : TT) (H : Hi)
/-- What is to be shown of code; the regions that draw their order are said by D. -/
def wpC (D : Nat → Array Oper → ES → (ES → Prop) → Prop) : Code → (Exit → ES → Prop) → ES → Prop
  | .skip, K, st => K .normal st
  | .region id ops draw, K, st => match draw with
    | false => runO P kp n tab H ops ops.toList st (K .normal)
    | true => D id ops st (K .normal)
  | .seq a b, K, st => wpC D a (fun e st' => match e with | .normal => wpC D b K st' | e => K e st') st
  | .cond c a b, K, st => match evOf st.slots c with
    | .v (.bool g) => (g = true → wpC D a K st) ∧ (g = false → wpC D b K st)
    | _ => False
  | .block id c, K, st => wpC D c (fun e st' => match e with | .exit i => bif Nat.beq i id then K .normal st' else K (.exit i) st' | e => K e st') st
  | .loop c, K, st => ∃ (α : Type) (I : α → ES) (ok : α → Prop) (μ : α → Nat) (x0 : α), ok x0 ∧ WkG kp st (I x0) ∧
      ∀ x, ok x → wpC D c (fun e st' => match e with | .normal => ∃ y, ok y ∧ μ y < μ x ∧ WkG kp st' (I y) | e => K e st') (I x)
  | .exit id, K, st => K (.exit id) st
  | .ret, K, st => K .ret st
  | _, _, _ => False
end
section
variable {P : Program} {E : Env} {kp : List Nat} {n : Nat} {tab : TT} {H : Hi}
theorem WkG_ok {st st' : ES} (h : WkG kp st st') : Wk E kp n st.as st'.as := by
  unfold WkG at h
  split at h
  · next C hc => exact wkF_ok hc (obA_ok h).1
  · exact h.elim
/-- What a region that draws its order has to give. -/
def DOk (P : Program) (kp : List Nat) (n : Nat) (D : Nat → Array Oper → ES → (ES → Prop) → Prop) : Prop :=
  ∀ (E : Env) (id : Nat) (ops : Array Oper) (st : ES) (K : ES → Prop) (Q : Exit → Act → World → Prop), D id ops st K → (∀ st', K st' → To E kp n Q .normal st'.as) → AW P E kp n (.region id ops true) Q st.as
theorem wpC_ok {D : Nat → Array Oper → ES → (ES → Prop) → Prop} (hP : tab.ok P) (hD : DOk P kp n D) : ∀ (c : Code) (K : Exit → ES → Prop) (Q : Exit → Act → World → Prop) (st : ES), wpC P kp n tab H D c K st → (∀ e st', K e st' → To E kp n Q e st'.as) → AW P E kp n c Q st.as
  | .skip, K, Q, st, h, hK => AW.skip (hK _ _ h)
  | .region id ops draw, K, Q, st, h, hK => by
    unfold wpC at h
    cases draw with
    | false =>
      have e : ops = ops.toList.toArray := by simp
      have k := runO_ok (E := E) (Q := Q) hP ops.toList st _ h (fun st' h' => hK _ _ h')
      have k2 : AO P E kp n ops.toList.toArray Q ops.toList st.as := by rw [← e]; exact k
      rw [e]; exact AW.region k2
    | true => exact hD E id ops st _ Q h (fun st' h' => hK _ _ h')
  | .seq a b, K, Q, st, h, hK => by
    unfold wpC at h
    refine AW.seq (wpC_ok hP hD a _ _ st h fun e st' h' => ?_)
    cases e with
    | normal => exact To.seq (wpC_ok hP hD b K Q st' h' hK)
    | _ => exact hK _ _ h'
  | .cond c a b, K, Q, st, h, hK => by
    unfold wpC at h
    split at h
    · next g hc =>
      refine AW.cond (g := g) (by rw [as_ev]; show Gv (evOf st.slots c).av _; rw [hc]; exact Gv.r) (fun hg => wpC_ok hP hD a K Q st (h.1 hg) hK) (fun hg => wpC_ok hP hD b K Q st (h.2 hg) hK)
    · exact h.elim
  | .block id c, K, Q, st, h, hK => by
    unfold wpC at h
    refine AW.block (wpC_ok hP hD c _ _ st h fun e st' h' => ?_)
    cases e with
    | exit i =>
      simp only at h'
      cases hb : Nat.beq i id with
      | true =>
        rw [hb] at h'
        have e := nat_eq hb; subst e
        exact To.block_exit (hK _ _ h')
      | false =>
        rw [hb] at h'
        exact To.block_exit_ne (fun e => by subst e; simp at hb) (hK _ _ h')
    | _ => exact hK _ _ h'
  | .loop c, K, Q, st, h, hK => by
    unfold wpC at h
    obtain ⟨α, I, ok, μ, x0, h0, hst, hround⟩ := h
    refine AW.loop (fun x => (I x).as) ok μ x0 h0 (WkG_ok hst) fun x hx K' hK' => ?_
    refine wpC_ok hP hD c _ _ (I x) (hround x hx) fun e st' h' => ?_
    cases e with
    | normal =>
      obtain ⟨y, hy, hlt, hw⟩ := h'
      exact To.then_normal (To.wk (WkG_ok hw) (hK' y hy hlt))
    | _ => exact hK _ _ h'
  | .exit id, K, Q, st, h, hK => AW.exit (hK _ _ h)
  | .ret, K, Q, st, h, hK => AW.ret (hK _ _ h)
  | .rangeFunc _ _ _ _, _, _, _, h, _ => by unfold wpC at h; exact h.elim
  | .scope _, _, _, _, h, _ => by unfold wpC at h; exact h.elim
  | .label _, _, _, _, h, _ => by unfold wpC at h; exact h.elim
  | .goto _, _, _, _, h, _ => by unfold wpC at h; exact h.elim
  | .refuse _, _, _, _, h, _ => by unfold wpC at h; exact h.elim
end
end Go.Proofs.Ytnopdnclefopbaa
