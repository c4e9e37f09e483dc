/- The walk by computation once more, told by recursors: what is left of it reads alike for whoever works it out (so that a proof is checked fast). It names no function of the program. -/
import Derived.Test.YtnopdnclefopbaaTd
import Derived.Test.YtnopdnclefopbaaTh
namespace Go.Proofs.Ytnopdnclefopbaa
open Go.RowKit
set_option linter.unusedVariables false
set_option linter.unusedSimpArgs false

def obR (C : List Prop) (K : Prop) : Prop := List.rec (motive := fun _ => Prop) K (fun c _ ih => Ob c ih) C
theorem obR_eq (K : Prop) : ∀ C : List Prop, obR C K = obA C K
  | [] => rfl
  | c :: cs => congrArg (Ob c) (obR_eq K cs)
def appR {α : Type} (k : List α → Prop) (m : List α) (l : List α) : Prop := List.rec (motive := fun _ => (List α → Prop) → Prop) (fun k => k m) (fun x _ ih k => ih (fun m' => k (x :: m'))) l k
theorem appR_eq {α : Type} (m : List α) : ∀ (l : List α) (k : List α → Prop), appR k m l = appK k m l
  | [], k => rfl
  | x :: l, k => appR_eq m l (fun m' => k (x :: m'))
theorem appR_app {α : Type} (m : List α) : ∀ (l : List α) (k : List α → Prop), appR k m l = k (l ++ m)
  | [], k => rfl
  | x :: l, k => appR_app m l (fun m' => k (x :: m'))
def nrmR (l : List Nat) (k : List Nat → Prop) : Prop := List.rec (motive := fun _ => (List Nat → Prop) → Prop) (fun k => k []) (fun x _ ih k => ih (fun m => k (x :: m))) l k
theorem nrmR_eq : ∀ (l : List Nat) (k : List Nat → Prop), nrmR l k = nrmN l k
  | [], k => rfl
  | x :: l, k => nrmR_eq l (fun m => k (x :: m))
def nwR (bs : List (Nat × EB)) (l : List (Nat × EB)) (k : List Nat → Prop) : Prop := List.rec (motive := fun _ => (List Nat → Prop) → Prop) (fun k => k []) (fun p _ ih k => bif (ob_ bs p.1).alive then ih k else ih (fun m => k (p.1 :: m))) l k
theorem nwR_eq (bs : List (Nat × EB)) : ∀ (l : List (Nat × EB)) (k : List Nat → Prop), nwR bs l k = nwK bs l k
  | [], k => rfl
  | p :: l, k => by
    show (bif (ob_ bs p.1).alive then nwR bs l k else nwR bs l (fun m => k (p.1 :: m))) = (bif (ob_ bs p.1).alive then nwK bs l k else nwK bs l (fun m => k (p.1 :: m)))
    rw [nwR_eq, nwR_eq]
def goRR (kp : List Nat) (sl : List (Nat × EV)) (hp : List (Nat × EB)) (K : ES → Prop) : Option RS → Prop
  | some ⟨C, rs, rh⟩ => bif frOk hp ⟨sl, hp⟩ kp rh then obR C (appR (fun s => appR (fun h => K ⟨s, h⟩) hp rh) sl rs) else False
  | none => False
theorem goRR_eq {kp : List Nat} {sl : List (Nat × EV)} {hp : List (Nat × EB)} {K : ES → Prop} (R : Option RS) : goRR kp sl hp K R = goR kp sl hp K R := by
  cases R with
  | none => rfl
  | some R => simp only [goRR, goR, obR_eq, appK_eq, appR_app]
def goDR (kp : List Nat) (m i : Nat) (rd tb : List Nat) (es : List EF) (sl : List (Nat × EV)) (hp : List (Nat × EB)) (K : List EF → ES → Prop) : Option RS → Prop
  | some ⟨C, rs, rh⟩ => appR (fun rs => appR (fun rh => nwR (pkH hp tb) rh (fun nw =>
      bif frN ⟨sl, hp⟩ kp nw && pairs m ⟨rs, rh, rd, tb, nw⟩ i es then obR C (appR (fun s => appR (fun h => K (⟨rs, rh, rd, tb, nw⟩ :: es) ⟨s, h⟩) hp rh) sl rs) else False)) [] rh) [] rs
  | none => False
theorem goDR_eq {kp : List Nat} {m i : Nat} {rd tb : List Nat} {es : List EF} {sl : List (Nat × EV)} {hp : List (Nat × EB)} {K : List EF → ES → Prop} (R : Option RS) : goDR kp m i rd tb es sl hp K R = goD kp m i rd tb es sl hp K R := by
  cases R with
  | none => rfl
  | some R => simp only [goDR, goD, obR_eq, appK_eq, appR_app, nwR_eq]
section
variable (P : Program) (kp : List Nat) (n : Nat) (tab : TT) (H : Hi) (ops : Array Oper)
/-- One operation, in order. -/
def bodyO (o : Oper) (next : ES → Prop) : ES → Prop
  | ⟨sl, hp⟩ => bif isSome' o.dst n then (match callOf o with
    | some (f, args) => match o.guard with
      | none => ∃ hin as hout res, Cf P f hin as hout res ∧ goRR kp sl hp next (callF sl hp o.dst args hin as hout res)
      | some (j, want) => match o.dst, guardB ops sl j want with
        | some d, some c => ∃ as res, (match fitL [] (argE (stripV (pkV sl (opnds args))) args) as with
          | some (C, []) => bif res.av.inH [] && inDL [] (avL as) && res.av.inD [] then ((c = true → Cf P f [] as [] res) ∧ obR (impP (c = true) (stripC (pkV sl (opnds args)) ++ C)) (next ⟨(d, .cnd c res) :: sl, hp⟩)) else False
          | _ => False)
        | _, _ => False
    | none => match nilF tab sl o with
      | some (d, m) => ∀ g : Bool, (g = true → m = 0) → next ⟨(d, .b g) :: sl, hp⟩
      | none => match o.dst with
        | some d => bif memN d H.man then (∃ st' : ES, (∀ E, Step P E kp n ops o (ES.as ⟨sl, hp⟩) st'.as) ∧ next st') else goRR kp sl hp next (stepF tab H ops sl hp o)
        | none => goRR kp sl hp next (stepF tab H ops sl hp o)) else False
def runOR (os : List Oper) (st : ES) (K : ES → Prop) : Prop := List.rec (motive := fun _ => ES → Prop) K (fun o _ ih => bodyO P kp n tab H ops o ih) os st
theorem runOR_eq (K : ES → Prop) : ∀ (os : List Oper) (st : ES), runOR P kp n tab H ops os st K = runO P kp n tab H ops os st K
  | [], st => rfl
  | o :: os, ⟨sl, hp⟩ => by
    have e : (fun st' => runOR P kp n tab H ops os st' K) = fun st' => runO P kp n tab H ops os st' K := funext fun st' => runOR_eq K os st'
    show bodyO P kp n tab H ops o (fun st' => runOR P kp n tab H ops os st' K) ⟨sl, hp⟩ = _
    rw [e]
    simp only [bodyO, goRR_eq, obR_eq]
    rfl
/-- One operation of a region that draws its order. -/
def bodyD (o : Oper) (next : List Nat → Nat → List EF → ES → Prop) : List Nat → Nat → List EF → ES → Prop
  | [], _, _, _ => False
  | m :: ms, i, es, ⟨sl, hp⟩ => bif isSome' o.dst n then
      nrmR (gdOf ops o (opnds o.op.operands.toList)) (fun rd => nrmR (tbOf sl hp rd o) (fun tb =>
      match callOf o with
      | some (f, args) => match o.guard with
        | none => ∃ hin as hout res, Cf P f hin as hout res ∧ goDR kp m i rd tb es sl hp (next ms (i + 1)) (callF (pkV sl rd) (pkH hp tb) o.dst args hin as hout res)
        | some (j, want) => match o.dst, guardB ops (pkV sl rd) j want with
          | some d, some c => ∃ as res, (match fitL [] (argE (stripV (pkV (pkV sl rd) (opnds args))) args) as with
            | some (C, []) => bif res.av.inH [] && inDL [] (avL as) && res.av.inD [] then ((c = true → Cf P f [] as [] res) ∧ obR (impP (c = true) (stripC (pkV (pkV sl rd) (opnds args)) ++ C)) (goDR kp m i rd tb es sl hp (next ms (i + 1)) (some ⟨[], [(d, .cnd c res)], []⟩))) else False
            | _ => False)
          | _, _ => False
      | none => match nilF tab (pkV sl rd) o with
        | some _ => False
        | none => goDR kp m i rd tb es sl hp (next ms (i + 1)) (stepF tab H ops (pkV sl rd) (pkH hp tb) o))) else False
def runDR (os : List Oper) (ms : List Nat) (i : Nat) (es : List EF) (st : ES) (K : ES → Prop) : Prop :=
  List.rec (motive := fun _ => List Nat → Nat → List EF → ES → Prop) (fun _ _ _ st => K st) (fun o _ ih => bodyD P kp n tab H ops o ih) os ms i es st
theorem runDR_eq (K : ES → Prop) : ∀ (os : List Oper) (ms : List Nat) (i : Nat) (es : List EF) (st : ES), runDR P kp n tab H ops os ms i es st K = runD P kp n tab H ops os ms i es st K
  | [], ms, i, es, st => by unfold runD; rfl
  | o :: os, [], i, es, st => rfl
  | o :: os, m :: ms, i, es, ⟨sl, hp⟩ => by
    have e : (fun ms i es st' => runDR P kp n tab H ops os ms i es st' K) = fun ms i es st' => runD P kp n tab H ops os ms i es st' K := by
      funext ms i es st'; exact runDR_eq K os ms i es st'
    show bodyD P kp n tab H ops o (fun ms i es st' => runDR P kp n tab H ops os ms i es st' K) (m :: ms) i es ⟨sl, hp⟩ = _
    rw [e]
    simp only [bodyD, goDR_eq, obR_eq, nrmR_eq]
    rfl
end
def DR (P : Program) (kp : List Nat) (n : Nat) (tab : TT) (H : Hi) : Nat → Array Oper → ES → (ES → Prop) → Prop :=
  fun _ ops st K => ∃ ms : List Nat, masksOk ops ms ops.size = true ∧ runDR P kp n tab H ops ops.toList ms 0 [] st K
theorem DR_eq {P : Program} {kp : List Nat} {n : Nat} {tab : TT} {H : Hi} : DR P kp n tab H = DD P kp n tab H := by
  funext i ops st K
  simp only [DR, DD, runDR_eq]
theorem DR_ok {P : Program} {kp : List Nat} {n : Nat} {tab : TT} {H : Hi} (hP : tab.ok P) (hx : P.follows .mixedOrders = true) : DOk P kp n (DR P kp n tab H) := by rw [DR_eq]; exact DD_ok hP hx
def WkGR (kp : List Nat) (st st' : ES) : Prop := match wkF kp st st' with
  | some C => obR C True
  | none => False
theorem WkGR_eq (kp : List Nat) (st st' : ES) : WkGR kp st st' = WkG kp st st' := by
  simp only [WkGR, WkG, obR_eq]; rfl
section
variable (P : Program) (kp : List Nat) (n : Nat) (tab : TT) (H : Hi) (D : Nat → Array Oper → ES → (ES → Prop) → Prop)
def seqK (nx : ES → Prop) (K : Exit → ES → Prop) : Exit → ES → Prop := fun e st' => match e with
  | .normal => nx st'
  | e => K e st'
def blkK (id : Nat) (K : Exit → ES → Prop) : Exit → ES → Prop := fun e st' => match e with
  | .exit i => bif Nat.beq i id then K .normal st' else K (.exit i) st'
  | e => K e st'
def lopK (kp : List Nat) {α : Type} (I : α → ES) (ok : α → Prop) (μ : α → Nat) (x : α) (K : Exit → ES → Prop) : Exit → ES → Prop := fun e st' => match e with
  | .normal => ∃ y, ok y ∧ μ y < μ x ∧ WkGR kp st' (I y)
  | e => K e st'
def regR (id : Nat) (ops : Array Oper) (draw : Bool) (K : Exit → ES → Prop) (st : ES) : Prop := match draw with
    | false => runOR P kp n tab H ops ops.toList st (K .normal)
    | true => D id ops st (K .normal)
def cndR (c : Operand) (a b : ES → Prop) (st : ES) : Prop := match evOf st.slots c with
    | .v (.bool g) => (g = true → a st) ∧ (g = false → b st)
    | _ => False
def wpR (c : Code) (K : Exit → ES → Prop) (st : ES) : Prop :=
  Code.rec (motive := fun _ => (Exit → ES → Prop) → ES → Prop)
    (fun K st => K .normal st)
    (fun id ops draw K st => regR P kp n tab H D id ops draw K st)
    (fun _ _ ia ib K st => ia (seqK (ib K) K) st)
    (fun c _ _ ia ib K st => cndR c (ia K) (ib K) st)
    (fun id _ ic K st => ic (blkK id K) st)
    (fun _ ic K st => ∃ (α : Type) (I : α → ES) (ok : α → Prop) (μ : α → Nat) (x0 : α), ok x0 ∧ WkGR kp st (I x0) ∧ ∀ x, ok x → ic (lopK kp I ok μ x K) (I x))
    (fun _ _ _ _ _ _ _ _ => False)
    (fun id K st => K (.exit id) st)
    (fun _ _ _ _ => False)
    (fun _ _ _ => False)
    (fun _ _ _ => False)
    (fun K st => K .ret st)
    (fun _ _ _ => False) c K st
theorem wpR_eq : ∀ (c : Code) (K : Exit → ES → Prop) (st : ES), wpR P kp n tab H D c K st = wpC P kp n tab H D c K st
  | .skip, K, st => rfl
  | .region id ops draw, K, st => by
    show regR P kp n tab H D id ops draw K st = _
    unfold wpC regR
    cases draw with
    | false => exact runOR_eq ..
    | true => rfl
  | .seq a b, K, st => by
    show wpR P kp n tab H D a (seqK (wpR P kp n tab H D b K) K) st = _
    rw [wpR_eq a, show wpR P kp n tab H D b K = wpC P kp n tab H D b K from funext (wpR_eq b K)]
    show _ = wpC P kp n tab H D a _ st
    congr 1
  | .cond c a b, K, st => by
    show cndR c (wpR P kp n tab H D a K) (wpR P kp n tab H D b K) st = _
    rw [show wpR P kp n tab H D a K = wpC P kp n tab H D a K from funext (wpR_eq a K), show wpR P kp n tab H D b K = wpC P kp n tab H D b K from funext (wpR_eq b K)]
    rfl
  | .block id c, K, st => by
    show wpR P kp n tab H D c (blkK id K) st = _
    rw [wpR_eq c]
    show _ = wpC P kp n tab H D c _ st
    congr 1
  | .loop c, K, st => by
    show (∃ (α : Type) (I : α → ES) (ok : α → Prop) (μ : α → Nat) (x0 : α), ok x0 ∧ WkGR kp st (I x0) ∧ ∀ x, ok x → wpR P kp n tab H D c (lopK kp I ok μ x K) (I x)) = _
    have e : ∀ (α : Type) (I : α → ES) (ok : α → Prop) (μ : α → Nat) (x : α), wpR P kp n tab H D c (lopK kp I ok μ x K) (I x) = wpC P kp n tab H D c (fun e st' => match e with | .normal => ∃ y, ok y ∧ μ y < μ x ∧ WkG kp st' (I y) | e => K e st') (I x) := by
      intro α I ok μ x
      rw [wpR_eq c]
      congr 1
      funext e st'
      unfold lopK
      cases e <;> simp only [WkGR_eq]
    simp only [e, WkGR_eq]
    rfl
  | .rangeFunc _ _ _ _, K, st => rfl
  | .exit id, K, st => rfl
  | .scope _, K, st => rfl
  | .label _, K, st => rfl
  | .goto _, K, st => rfl
  | .ret, K, st => rfl
  | .refuse _, K, st => rfl
end
def RetGR (tab : TT) (kp : List Nat) (rs : List ResultVar) (hout : List (Nat × EB)) (res : EV) (st : ES) : Prop :=
  match resV tab st rs with
  | none => False
  | some l => match cvE st.heap (oneV l) res with
    | none => False
    | some (C0, z, F) => match fit (idK hout kp) z res with
      | none => False
      | some (C1, τ) => match fitH (F ++ st.heap) τ hout with
        | none => False
        | some (C2, σ) => bif kpOk kp σ && sgOk (idK hout kp) then obR (C0 ++ (C1 ++ C2)) True else False
theorem RetGR_eq (tab : TT) (kp : List Nat) (rs : List ResultVar) (hout : List (Nat × EB)) (res : EV) (st : ES) : RetGR tab kp rs hout res st = RetG tab kp rs hout res st := by
  simp only [RetGR, RetG, obR_eq]; rfl
def endK (tab : TT) (kp : List Nat) (rs : List ResultVar) (hout : List (Nat × EB)) (res : EV) : Exit → ES → Prop := fun e st => match e with
  | .ret => RetGR tab kp rs hout res st
  | .normal => RetGR tab kp rs hout res st
  | _ => False
/-- A call under a condition, by its contract. -/
theorem gx {P : Program} {f : FuncId} {ags : List EV} {res : EV} {c : Bool} {Q : List EV → EV → Prop} (k : c = true → Cf P f [] ags [] res) (h : (c = true → Cf P f [] ags [] res) → Q ags res) : ∃ ags res, Q ags res := ⟨ags, res, h k⟩
theorem gx2 {P : Program} {f : FuncId} {ags : List EV} {res : EV} {Q : List EV → EV → Prop} (k : Cf P f [] ags [] res) (h : Cf P f [] ags [] res → Q ags res) : ∃ ags res, Q ags res := ⟨ags, res, h k⟩
/-- **How a contract is shown.** -/
theorem Cf.introR {P : Program} {f m : Nat} {fn : Func} {c : Code} {rs : List ResultVar} {hin hout : List (Nat × EB)} {as : List EV} {res : EV} (tab : TT) (H : Hi) (D : Nat → Array Oper → ES → (ES → Prop) → Prop) (hcall : callable P f = true) (hP : tab.ok P) (hf : P.funcs[f]? = some fn) (hm : fn.ntmps = m) (hb : fn.body = some c) (hr : fn.results = rs.toArray)
    (hD : DOk P (hin.map (·.1)) m D) (hk : Nat.ble as.length m = true)
    (h : appR (fun sl => wpR P (hin.map (·.1)) m tab H D c (endK tab (hin.map (·.1)) rs hout res) ⟨sl, hin⟩) [] (slE 0 as)) : Cf P f hin as hout res := by
  refine Cf.intro tab H D hcall hP hf hm hb hr hD hk ?_
  rw [appR_app, wpR_eq] at h
  rw [appK_eq]
  have e : endK tab (hin.map (·.1)) rs hout res = fun e st => match e with | .ret => RetG tab (hin.map (·.1)) rs hout res st | .normal => RetG tab (hin.map (·.1)) rs hout res st | _ => False := by
    funext e st
    unfold endK
    cases e <;> simp only [RetGR_eq]
  rw [e] at h
  exact h
end Go.Proofs.Ytnopdnclefopbaa
