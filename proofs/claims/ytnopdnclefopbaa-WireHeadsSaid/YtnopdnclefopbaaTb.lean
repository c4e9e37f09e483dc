/- The walk by computation: what is to be shown of a function's code. It names no function of the program. -/
import Derived.Test.YtnopdnclefopbaaTa
namespace Go.Proofs.Ytnopdnclefopbaa
open Go.RowKit
set_option linter.unusedVariables false
set_option linter.unusedSimpArgs false

/-- One thing to be shown, and the rest. -/
structure Ob (c rest : Prop) : Prop where
  l : c
  r : rest
def obA : List Prop → Prop → Prop
  | [], K => K
  | c :: cs, K => Ob c (obA cs K)
theorem obA_ok : ∀ {C : List Prop} {K : Prop}, obA C K → (∀ c ∈ C, c) ∧ K
  | [], K, h => ⟨by simp, h⟩
  | c :: cs, K, h => by
    obtain ⟨h1, h2⟩ := h
    obtain ⟨h3, h4⟩ := obA_ok h2
    refine ⟨fun x hx => ?_, h4⟩
    rcases List.mem_cons.1 hx with rfl | hx
    · exact h1
    · exact h3 x hx
/-- Under a condition. -/
def impP (q : Prop) : List Prop → List Prop
  | [] => []
  | c :: cs => (q → c) :: impP q cs
theorem impP_ok {q : Prop} (hq : q) : ∀ {C : List Prop}, (∀ c ∈ impP q C, c) → ∀ c ∈ C, c
  | [], _, c, hc => by cases hc
  | x :: cs, h, c, hc => by
    rcases List.mem_cons.1 hc with rfl | hc
    · exact h _ (List.mem_cons_self ..) hq
    · exact impP_ok hq (fun y hy => h y (List.mem_cons_of_mem _ hy)) c hc
/-- Hints: the places of operations that come round; of those that are shown by hand. -/
structure Hi where
  wr : List Nat := []
  man : List Nat := []
  own : List (Nat × Nat) := []
  sel : List Nat := []
  fz : List Nat := []

def stripV : List (Nat × EV) → List (Nat × EV)
  | [] => []
  | (s, x) :: l => (s, match x with | .cnd _ y => y | y => y) :: stripV l
def stripC : List (Nat × EV) → List Prop
  | [] => []
  | (s, x) :: l => match x with
    | .cnd g _ => (g = true) :: stripC l
    | _ => stripC l
def opnds : List Operand → List Nat
  | [] => []
  | .tmp t :: l => t :: opnds l
  | _ :: l => opnds l
def pkV (vs : List (Nat × EV)) : List Nat → List (Nat × EV)
  | [] => []
  | s :: l => (s, look .any vs s) :: pkV vs l
def guardB (ops : Array Oper) (vs : List (Nat × EV)) (j : Nat) (want : Bool) : Option Bool :=
  match (ops[j]?).bind (·.dst) with
  | some gs => match look .any vs gs with
    | .v (.bool g) => some (g == want)
    | .cnd g (.v (.bool q)) => some (g && (q == want))
    | _ => none
  | none => none
def cndB : EV → Option (List Prop × Bool)
  | .v (.bool g) => some ([], g)
  | .cnd k (.v (.bool g)) => some ([k = true], g)
  | _ => none
/-- 'c && x', 'c || x', as the translation has them. -/
def pickF (vs : List (Nat × EV)) (c a b : Operand) : Option (List Prop × EV) :=
  match cndB (evOf vs c) with
  | none => none
  | some (C, g) => match a with
    | .const (.bool true) => match cndB (evOf vs b) with
      | some (C', q) => some (C ++ impP (g = false) C', .b (g || q))
      | none => none
    | a => match b with
      | .const (.bool false) => match cndB (evOf vs a) with
        | some (C', q) => some (C ++ impP (g = true) C', .b (g && q))
        | none => none
      | _ => none
def ownOf (d : Nat) : List (Nat × Nat) → Option Nat
  | [] => none
  | p :: l => bif Nat.beq p.1 d then some p.2 else ownOf d l
/-- The nil slice again into a place that has it: an empty row of the call's own. -/
def ownF (d T : Nat) (old : EV) (y : EV) : Option RS :=
  match y with
  | .v (.slice none 0 0) => match old with
    | .v (.slice none 0 0) => some ⟨[], [(d, .osl (nmB d) 0)], [(nmB d, .rb [] T 0)]⟩
    | _ => some ⟨[], [(d, y)], []⟩
  | y => some ⟨[], [(d, y)], []⟩
/-- A slice of the call's own, given on as shared. -/
def fzF (vs : List (Nat × EV)) (bs : List (Nat × EB)) (d : Nat) (x : Operand) : Option RS :=
  match frz vs bs x with
  | some (y, R) => some ⟨R.C, (d, y) :: R.sl, R.hp⟩
  | none => none
section
variable (tab : TT) (H : Hi) (ops : Array Oper) (vs : List (Nat × EV)) (bs : List (Nat × EB))
def plainF (d : Nat) (ty : TypeId) (vs : List (Nat × EV)) (o : Op) : Option RS :=
  match o with
  | .pick c a b => match pickF vs c a b with
    | some (C, x) => some ⟨C, [(d, x)], []⟩
    | none => none
  | .assign x => match ownOf d H.own with
    | some T => ownF d T (look .any vs d) (evOf vs x)
    | none => bif memN d H.fz then fzF vs bs d x else opF tab vs bs d (memN d H.wr) ty (.assign x)
  | .move x => bif memN d H.fz then fzF vs bs d x else opF tab vs bs d (memN d H.wr) ty (.move x)
  | .indexAddr T x y => bif memN d H.sel then selF tab vs bs d T x (evOf vs y) else opF tab vs bs d (memN d H.wr) ty (.indexAddr T x y)
  | o => opF tab vs bs d (memN d H.wr) ty o
/-- An operation's effect, but for calls of functions. -/
def stepF (o : Oper) : Option RS :=
  match o.dst with
  | none => match o.guard with
    | none => match o.op with
      | .store T x y => storeF tab bs T (evOf vs x) (evOf vs y)
      | _ => none
    | some _ => none
  | some d => bif (ob_ bs (nmB d)).alive || (ob_ bs (nmZ d)).alive then none else (match o.guard with
    | none => plainF tab H bs d o.type vs o.op
    | some (j, want) => match guardB ops vs j want with
      | none => none
      | some c => match o.op with
        | .pick p a b => match pickF vs p a b with
          | some (C, x) => some ⟨impP (c = true) C, [(d, .cnd c x)], []⟩
          | none => none
        | op => match opF tab (stripV (pkV vs (opnds op.operands.toList))) bs d (memN d H.wr) o.type op with
          | some ⟨C, [(d', x)], []⟩ => bif Nat.beq d' d then some ⟨impP (c = true) (stripC (pkV vs (opnds op.operands.toList)) ++ C), [(d, .cnd c x)], []⟩ else none
          | _ => none)
end
def callOf (o : Oper) : Option (FuncId × List Operand) :=
  match o.op with
  | .call c => match c.callee with
    | .value (.func f) => some (f, c.args.toList)
    | _ => none
  | _ => none
/-- A slice against nil. -/
def nilF (tab : TT) (vs : List (Nat × EV)) (o : Oper) : Option (Nat × Nat) :=
  match o.op with
  | .binOp .eql T x y _ => match o.dst, o.guard with
    | some d, none => match tab.find T with
      | some ⟨.sl _ _ _ _, _, _, _, _⟩ => match evOf vs y with
        | .v (.slice none 0 0) => match evOf vs x with
          | .bs l => some (d, l.length)
          | .lz n _ _ => some (d, n)
          | .sl _ n => some (d, n)
          | _ => none
        | _ => none
      | _ => none
    | _, _ => none
  | _ => none
def frOk (bs : List (Nat × EB)) (st : ES) (kp : List Nat) : List (Nat × EB) → Bool
  | [] => true
  | p :: l => ((ob_ bs p.1).alive || st.free kp p.1) && frOk bs st kp l
theorem frOk_ok {bs : List (Nat × EB)} {st : ES} {kp : List Nat} : ∀ {l : List (Nat × EB)}, frOk bs st kp l = true → ∀ p ∈ l, (ob_ bs p.1).alive = true ∨ st.free kp p.1 = true
  | [], _, p, hp => by cases hp
  | q :: l, h, p, hp => by
    simp only [frOk, Bool.and_eq_true, Bool.or_eq_true] at h
    rcases List.mem_cons.1 hp with rfl | hp
    · exact h.1
    · exact frOk_ok h.2 p hp
/-- A contract, of a function that may be called by its number. -/
def Cf (P : Program) (f : FuncId) (hin : List (Nat × EB)) (as : List EV) (hout : List (Nat × EB)) (res : EV) : Prop := callable P f = true ∧ Ct P f hin as hout res
def isSome' : Option Nat → Nat → Bool
  | none, _ => true
  | some d, n => Nat.blt d n
section
variable (P : Program) (kp : List Nat) (n : Nat) (tab : TT) (H : Hi) (ops : Array Oper)
def goR (sl : List (Nat × EV)) (hp : List (Nat × EB)) (K : ES → Prop) : Option RS → Prop
  | some ⟨C, rs, rh⟩ => bif frOk hp ⟨sl, hp⟩ kp rh then obA C (appK (fun s => appK (fun h => K ⟨s, h⟩) hp rh) sl rs) else False
  | none => False
/-- A region in order. -/
def runO : List Oper → ES → (ES → Prop) → Prop
  | [], st, K => K st
  | o :: os, ⟨sl, hp⟩, K => bif isSome' o.dst n then (match callOf o with
    | some (f, args) => match o.guard with
      | none => ∃ hin as hout res, Cf P f hin as hout res ∧ goR kp sl hp (fun st' => runO os st' K) (callF sl hp o.dst args hin as hout res)
      | some (j, want) => match o.dst, guardB ops sl j want with
        | some d, some c => ∃ as res, (match fitL [] (argE (stripV (pkV sl (opnds args))) args) as with
          | some (C, []) => bif res.av.inH [] && inDL [] (avL as) && res.av.inD [] then ((c = true → Cf P f [] as [] res) ∧ obA (impP (c = true) (stripC (pkV sl (opnds args)) ++ C)) (runO os ⟨(d, .cnd c res) :: sl, hp⟩ K)) else False
          | _ => False)
        | _, _ => False
    | none => match nilF tab sl o with
      | some (d, m) => ∀ g : Bool, (g = true → m = 0) → runO os ⟨(d, .b g) :: sl, hp⟩ K
      | none => match o.dst with
        | some d => bif memN d H.man then (∃ st' : ES, (∀ E, Step P E kp n ops o (ES.as ⟨sl, hp⟩) st'.as) ∧ runO os st' K) else goR kp sl hp (fun st' => runO os st' K) (stepF tab H ops sl hp o)
        | none => goR kp sl hp (fun st' => runO os st' K) (stepF tab H ops sl hp o)) else False
end

section
variable {P : Program} {E : Env} {kp : List Nat} {n : Nat} {ops : Array Oper} {tab : TT} {H : Hi} {st : ES}
theorem Sub.full (st : ES) : Sub st.slots st.heap st := ⟨fun _ => .inr rfl, fun _ => .inr rfl⟩
theorem look_pkV {vs : List (Nat × EV)} {t : Nat} : ∀ {l : List Nat}, look .any (pkV vs l) t = .any ∨ look .any (pkV vs l) t = look .any vs t
  | [] => .inl rfl
  | s :: l => by
    simp only [pkV, look_cons]
    split
    · next e => subst e; exact .inr rfl
    · exact look_pkV
theorem look_strip {t : Nat} : ∀ {l : List (Nat × EV)}, look .any (stripV l) t = (match look .any l t with | .cnd _ y => y | y => y)
  | [] => rfl
  | (s, x) :: l => by
    simp only [stripV, look_cons]
    split
    · rfl
    · exact look_strip
theorem strip_cond {t : Nat} {g : Bool} {y : EV} : ∀ {l : List (Nat × EV)}, (∀ c ∈ stripC l, c) → look .any l t = .cnd g y → g = true
  | [], _, h => by cases h
  | (s, x) :: l, hC, h => by
    rw [look_cons] at h
    split at h
    · subst h
      exact hC (g = true) (by simp [stripC])
    · refine strip_cond (l := l) (fun c hc => hC c ?_) h
      simp only [stripC]
      split
      · exact List.mem_cons_of_mem _ hc
      · exact hc
/-- Under the conditions of some slots they are what stands under them. -/
theorem strip_gv {l : List Nat} (hC : ∀ c ∈ stripC (pkV st.slots l), c) (t : Nat) :
    Gv (look AV.any st.as.slots t) (look EV.any (stripV (pkV st.slots l) ++ st.slots) t).av ∧ Gv (look EV.any (stripV (pkV st.slots l) ++ st.slots) t).av (look AV.any st.as.slots t) := by
  have e0 : look AV.any st.as.slots t = (look EV.any st.slots t).av := look_avs _ _
  rw [e0]
  have key : ∀ (m : List (Nat × EV)), (∀ c ∈ stripC m, c) → (∀ s x, (s, x) ∈ m → x = look .any st.slots s) →
      Gv (look EV.any st.slots t).av (look EV.any (stripV m ++ st.slots) t).av ∧ Gv (look EV.any (stripV m ++ st.slots) t).av (look EV.any st.slots t).av := by
    intro m
    induction m with
    | nil => intro _ _; exact ⟨Gv.r, Gv.r⟩
    | cons p m ih =>
      obtain ⟨s, x⟩ := p
      intro hC hm
      have hC' : ∀ c ∈ stripC m, c := fun c hc => hC c (by
        simp only [stripC]
        split
        · exact List.mem_cons_of_mem _ hc
        · exact hc)
      simp only [stripV, List.cons_append, look_cons]
      split
      · next e =>
        subst e
        have hx := hm s x (by simp)
        rw [← hx]
        cases x with
        | cnd g y =>
          have hg : g = true := hC (g = true) (by simp [stripC])
          subst hg
          refine ⟨Gv.c rfl Gv.r, fun w Pub φ u k => ?_⟩
          unfold EV.av RA
          exact ⟨fun _ => k, fun h => by cases h⟩
        | _ => exact ⟨Gv.r, Gv.r⟩
      · exact ih hC' fun s' x' h' => hm s' x' (List.mem_cons_of_mem _ h')
  refine key _ hC fun s x hm => ?_
  have : ∀ (l : List Nat), (s, x) ∈ pkV st.slots l → x = look .any st.slots s := by
    intro l
    induction l with
    | nil => intro h; cases h
    | cons a l ih =>
      intro h
      simp only [pkV, List.mem_cons] at h
      rcases h with h | h
      · cases h; rfl
      · exact ih h
  exact this l hm
theorem wk_gv {sl sl' : List (Nat × AV)} {h : List (Nat × OB)} (hs : ∀ t, Gv (look AV.any sl t) (look AV.any sl' t)) : Wk E kp n ⟨sl, h⟩ ⟨sl', h⟩ := by
  rintro a w ⟨φ, Pub, I, h0, hn, hsl⟩
  exact ⟨φ, Pub, I, h0, hn, fun s => hs s _ _ _ _ (hsl s)⟩
theorem strip_sub {l : List Nat} {bs : List (Nat × EB)} (hb : ∀ r, ob_ bs r = .dead ∨ st.eb r = ob_ bs r) : Sub (stripV (pkV st.slots l)) bs ⟨stripV (pkV st.slots l) ++ st.slots, st.heap⟩ := by
  refine ⟨fun x => ?_, hb⟩
  cases x with
  | tmp t =>
    show look EV.any (stripV (pkV st.slots l)) t = .any ∨ look EV.any (stripV (pkV st.slots l) ++ st.slots) t = look EV.any (stripV (pkV st.slots l)) t
    rw [look_app]
    cases hk : hasK t (stripV (pkV st.slots l)) with
    | true => rw [if_pos rfl]; exact .inr rfl
    | false =>
      refine .inl ?_
      have : ∀ (m : List (Nat × EV)), hasK t m = false → look EV.any m t = .any := by
        intro m
        induction m with
        | nil => intro _; rfl
        | cons p m ih =>
          intro h
          simp only [hasK, Bool.or_eq_false_iff] at h
          rw [look_cons, if_neg (fun e => by rw [e] at h; simp at h)]
          exact ih h.2
      exact this _ hk
  | _ => exact .inr rfl
/-- An operation under a guard. -/
theorem guard_ok {o : Op} {d j : Nat} {want c : Bool} {x : EV} {ty : TypeId} {ps : String} {af : Array Edge} (hg : guardB ops st.slots j want = some c) (hd : Nat.blt d n = true)
    (h : c = true → Step P E kp n ops ⟨some d, o, ty, ps, af, none⟩ st.as (st.as.put d x.av)) : Step P E kp n ops ⟨some d, o, ty, ps, af, some (j, want)⟩ st.as (st.as.put d (EV.cnd c x).av) := by
  unfold guardB at hg
  split at hg
  · next gs hj =>
    split at hg
    · next g hv =>
      cases hg
      refine S_guard hj ?_ hd h
      rw [as_ev]; show (look EV.any st.slots gs).av = _; rw [hv]; rfl
    · next g q hv =>
      cases hg
      refine S_guard2 hj ?_ hd h
      rw [as_ev]; show (look EV.any st.slots gs).av = _; rw [hv]; rfl
    · cases hg
  · cases hg
theorem cndB_gv {x : EV} {C : List Prop} {g : Bool} (h : cndB x = some (C, g)) (hC : ∀ c ∈ C, c) : Gv x.av (.p (.v (.bool g))) := by
  unfold cndB at h
  split at h
  · cases h; exact Gv.r
  · next k q => cases h; exact Gv.c (hC (k = true) (by simp)) Gv.r
  · cases h
theorem guardB_sub {vs : List (Nat × EV)} {bs : List (Nat × EB)} {j : Nat} {want c : Bool} (S : Sub vs bs st) (h : guardB ops vs j want = some c) : guardB ops st.slots j want = some c := by
  unfold guardB at h ⊢
  split at h
  · next gs hj =>
    rcases S.e (.tmp gs) with k | k
    · have k : look EV.any vs gs = .any := k
      rw [k] at h; cases h
    · have k : look EV.any st.slots gs = look EV.any vs gs := k
      rw [← k] at h; exact h
  · cases h
theorem pkV_eq {vs ws : List (Nat × EV)} : ∀ {l : List Nat}, (∀ s ∈ l, look EV.any vs s = look EV.any ws s) → pkV vs l = pkV ws l
  | [], _ => rfl
  | s :: l, h => by
    unfold pkV
    rw [h s (by simp), pkV_eq (l := l) (fun x hx => h x (List.mem_cons_of_mem _ hx))]
theorem pickF_ok {c a b : Operand} {C : List Prop} {x : EV} {d : Nat} {ty : TypeId} {ps : String} {af : Array Edge} {vs : List (Nat × EV)} {bs : List (Nat × EB)} (S : Sub vs bs st) (h : pickF vs c a b = some (C, x)) (hC : ∀ c ∈ C, c) (hd : Nat.blt d n = true) :
    Step P E kp n ops ⟨some d, .pick c a b, ty, ps, af, none⟩ st.as (st.as.put d x.av) := by
  unfold pickF at h
  split at h
  · cases h
  · next C0 g hc =>
    split at h
    · split at h
      · next C1 q hq =>
        cases h
        have hC0 : ∀ c ∈ C0, c := fun c hc => hC c (List.mem_append_left _ hc)
        have h1 : g = false → ∀ c ∈ C1, c := fun hg => impP_ok hg (fun c hc => hC c (List.mem_append_right _ hc))
        exact S_or ((S.v c).trans (cndB_gv hc hC0)) (by rw [as_ev]; exact Gv.r) (fun hg => (S.v b).trans (cndB_gv hq (h1 hg))) hd
      · cases h
    · split at h
      · split at h
        · next C1 q hq =>
          cases h
          have hC0 : ∀ c ∈ C0, c := fun c hc => hC c (List.mem_append_left _ hc)
          have h1 : g = true → ∀ c ∈ C1, c := fun hg => impP_ok hg (fun c hc => hC c (List.mem_append_right _ hc))
          exact S_and ((S.v c).trans (cndB_gv hc hC0)) (by rw [as_ev]; exact Gv.r) (fun hg => (S.v a).trans (cndB_gv hq (h1 hg))) hd
        · cases h
      · cases h
theorem fzF_ok {d : Nat} {ty : TypeId} {o : Op} {x : Operand} {R : RS} {ps : String} {af : Array Edge} {vs : List (Nat × EV)} {bs : List (Nat × EB)} (ho : o = .move x ∨ o = .assign x) (S : Sub vs bs st) (h : fzF vs bs d x = some R) (hC : ∀ c ∈ R.C, c) (hd : Nat.blt d n = true) : Step P E kp n ops ⟨some d, o, ty, ps, af, none⟩ st.as (R.app st).as := by
  unfold fzF at h
  split at h
  · next y R' hR =>
    cases h
    obtain ⟨k1, k2, _⟩ := frz_ok (E := E) (kp := kp) (n := n) S hR hC
    exact (S_mv ho hd k2).pre k1
  · cases h
theorem plainF_ok {d : Nat} {ty : TypeId} {o : Op} {R : RS} {ps : String} {af : Array Edge} {vs : List (Nat × EV)} {bs : List (Nat × EB)} (S : Sub vs bs st) (hP : tab.ok P) (h : plainF tab H bs d ty vs o = some R) (hC : ∀ c ∈ R.C, c) (hf : ∀ p ∈ R.hp, (ob_ bs p.1).alive = true ∨ st.free kp p.1 = true)
    (hnd : (ob_ bs (nmB d)).alive = false) (hnz : (ob_ bs (nmZ d)).alive = false) (hd : Nat.blt d n = true) : Step P E kp n ops ⟨some d, o, ty, ps, af, none⟩ st.as (R.app st).as := by
  unfold plainF at h
  split at h
  · split at h
    · next C x hp => cases h; exact pickF_ok S hp hC hd
    · cases h
  · next x =>
    split at h
    · next T _ =>
      have hx := S.v x
      have mv : Step P E kp n ops ⟨some d, .assign x, ty, ps, af, none⟩ st.as (st.as.put d (evOf vs x).av) := S_mv (.inr rfl) hd hx
      unfold ownF at h
      split at h
      · next y hy =>
        split at h
        · cases h
          rw [hy] at mv
          have hfr : st.free kp (nmB d) = true := by
            rcases hf _ (List.mem_singleton.2 rfl) with k | k
            · rw [hnd] at k; cases k
            · exact k
          rw [← as_free] at hfr
          refine (mv.wk (wk_nil d (nmB d) T 1 (by show Gv (look AV.any ((d, _) :: st.as.slots) d) _; rw [look_cons, if_pos rfl]; exact Gv.r) ?_)).wk ?_
          · obtain ⟨f1, f2, f3, f4⟩ := free_split hfr
            exact free_mk f1 f2 (by
              show sHas (nmB d) ((d, _) :: st.as.slots) = false
              simp only [sHas, f3, Bool.or_false]; rfl) f4
          · intro a w hs
            refine Sat.congr (st := ⟨(d, .osl (nmB d) 0) :: (st.as.put d (EV.v (Value.slice none 0 0)).av).slots, (nmB d, .row [] T 1 0) :: (st.as.put d (EV.v (Value.slice none 0 0)).av).heap⟩) (fun s => ?_) (fun r => rfl) hs
            show look AV.any ((d, AV.osl (nmB d) 0) :: st.as.slots) s = look AV.any ((d, AV.osl (nmB d) 0) :: (d, (EV.v (Value.slice none 0 0)).av) :: st.as.slots) s
            simp only [look_cons]
            split
            · rfl
            · rfl
        · cases h; exact mv
      · cases h; exact mv
    · cases hm : memN d H.fz with
      | true => rw [hm] at h; exact fzF_ok (.inr rfl) S h hC hd
      | false => rw [hm] at h; simp only [cond_false] at h; exact opF_ok hP S h hC hf hnd hnz hd
  · next x =>
    cases hm : memN d H.fz with
    | true => rw [hm] at h; exact fzF_ok (.inl rfl) S h hC hd
    | false => rw [hm] at h; simp only [cond_false] at h; exact opF_ok hP S h hC hf hnd hnz hd
  · next T x y =>
    cases hm : memN d H.sel with
    | true => rw [hm] at h; exact selF_ok hP S h hC hd
    | false => rw [hm] at h; simp only [cond_false] at h; exact opF_ok hP S h hC hf hnd hnz hd
  · exact opF_ok hP S h hC hf hnd hnz hd
theorem stepF_ok {o : Oper} {R : RS} {vs : List (Nat × EV)} {bs : List (Nat × EB)} (S : Sub vs bs st) (hv : ∀ s ∈ opnds o.op.operands.toList, look EV.any vs s = look EV.any st.slots s) (hP : tab.ok P) (h : stepF tab H ops vs bs o = some R) (hC : ∀ c ∈ R.C, c) (hf : ∀ p ∈ R.hp, (ob_ bs p.1).alive = true ∨ st.free kp p.1 = true) (hd : isSome' o.dst n = true) :
    Step P E kp n ops o st.as (R.app st).as := by
  obtain ⟨dst, op, ty, ps, af, gd⟩ := o
  unfold stepF at h
  simp only at h hd
  split at h
  · split at h
    · split at h
      · exact storeF_ok hP S h hC (S.v _) (S.v _)
      · cases h
    · cases h
  · next d =>
    have hd' : Nat.blt d n = true := hd
    cases hb : (ob_ bs (nmB d)).alive || (ob_ bs (nmZ d)).alive with
    | true => rw [hb] at h; cases h
    | false =>
      rw [hb] at h
      simp only [cond_false] at h
      rw [Bool.or_eq_false_iff] at hb
      split at h
      · exact plainF_ok S hP h hC hf hb.1 hb.2 hd'
      · next j want =>
        split at h
        · cases h
        · next c hg =>
          have hg := guardB_sub S hg
          have hpk := pkV_eq hv
          split at h
          · split at h
            · next C x hp =>
              cases h
              exact guard_ok hg hd' fun hc => pickF_ok S hp (impP_ok hc hC) hd'
            · cases h
          · split at h
            · next C d' x hp =>
              cases hbd : Nat.beq d' d with
              | false => rw [hbd] at h; cases h
              | true =>
                rw [hbd] at h; cases h
                rw [hpk] at hp hC
                have e := nat_eq hbd; subst e
                refine guard_ok hg hd' fun hc => ?_
                have h2 := impP_ok hc hC
                have sg := strip_gv (st := st) (l := opnds op.operands.toList) (fun c hc => h2 c (List.mem_append_left _ hc))
                have k := opF_ok (P := P) (E := E) (kp := kp) (n := n) (ops := ops) (ps := ps) (af := af) hP (strip_sub (st := st) (l := opnds op.operands.toList) S.b) hp (fun c hc => h2 c (List.mem_append_right _ hc)) (fun p hp => by cases hp) hb.1 hb.2 hd'
                refine (k.pre (st := st.as) ?_).wk ?_
                · refine wk_gv (sl := st.as.slots) fun t => ?_
                  have := (sg t).1
                  rw [look_avs]; exact this
                · refine wk_gv (h := st.as.heap) (sl := avs ([(d', x)] ++ (stripV (pkV st.slots (opnds op.operands.toList)) ++ st.slots))) fun t => ?_
                  have := (sg t).2
                  show Gv (look AV.any ((d', x.av) :: avs _) t) (look AV.any ((d', x.av) :: st.as.slots) t)
                  rw [look_cons, look_cons]
                  split
                  · exact Gv.r
                  · rw [look_avs]; exact this
            · cases h
end
end Go.Proofs.Ytnopdnclefopbaa
