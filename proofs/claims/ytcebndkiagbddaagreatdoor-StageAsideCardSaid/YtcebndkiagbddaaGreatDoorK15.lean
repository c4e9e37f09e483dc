/- A part of the proof: contracts of functions and what they stand on. Written shorter and merged by a program (pack.py). -/
import Derived.Test.YtcebndkiagbddaaGreatDoorK14
set_option linter.unusedVariables false
set_option linter.unusedSimpArgs false
set_option maxRecDepth 100000
set_option maxHeartbeats 4000000
open Bool renaming and_eq_true → Qy3, or_eq_true → Qy8, or_eq_false_iff → Qze
open List renaming mem_cons_of_mem → Qy4, mem_append_left → Qy5, mem_append_right → Qy6, mem_cons → Qza, append_nil → Qzb
open Nat renaming testBit → Qy7, blt → Qy9, beq → Qzc, testBit_or → Qzd
namespace Go.Proofs.YtcebndkiagbddaaGreatDoor
section
open Go.RowKit
section
variable {P:Program} {E:Env} {kp:List Nat} {n:Nat} {ops:Array Oper} {tab:TT} {H:Hi} {st:ES} {Q:Exit→Act→World→Prop}
theorem Qm4 {K:ES→Prop} {R:Option RS} (h:goR kp st.slots st.heap K R):∃ R',R=some R'∧(∀ p∈R'.hp,(ob_ st.heap p.1).alive=true∨st.free kp p.1=true)∧(∀ c∈R'.C,c)∧K (R'.app st):=by
 unfold goR at h;split at h
 ·next C rs rh =>
  let R':RS:=⟨C,rs,rh⟩
  cases hf:Qqf st.heap st kp rh with
  | false=>rw [hf] at h;exact h.elim
  | true =>
   rw [hf] at h;obtain ⟨h1,h2⟩:=JM h;rw [YP,YP] at h2;exact ⟨R',rfl,QoH hf,h1,h2⟩
 ·exact h.elim
theorem Jj {dst:Option Nat} (h:XR dst n=true):∀ x,dst=some x→Qy9 x n=true:=by
 intro x hx;subst hx;exact h
theorem QhB {o:Oper} {f:FuncId} {args:List Operand} (h:Qi1 o=some (f,args)):∃ a T,o.op=.call { callee:=.value (.func f),args:=a,argTypes:=T }∧a.toList=args:=by
 unfold Qi1 at h;split at h
 ·next c hc =>
  split at h
  ·next f' hf =>
   cases h;obtain ⟨callee,a,T⟩:=c;simp only at hf;subst hf;exact ⟨a,T,hc,rfl⟩
  ·cases h
 ·cases h
theorem QkY {vs:List (Nat×EV)} {o:Oper} {f:FuncId} {args:List Operand} {ce:Option (List EV)} (h:Qhy vs o=some (f,args,ce)):(ce=none∧Qi1 o=some (f,args))∨(ce=none∧QoG vs o=some (f,args))∨∃ l,ce=some l∧Qox vs o=some (f,args,l):=by
 unfold Qhy at h;split at h
 ·next f' a' hc=>cases h;exact .inl ⟨rfl,hc⟩
 ·split at h
  ·next f' a' hc=>cases h;exact .inr (.inl ⟨rfl,hc⟩)
  ·split at h
   ·next f' a' l hc=>cases h;exact .inr (.inr ⟨l,rfl,hc⟩)
   ·cases h
theorem QkZ {vs:List (Nat×EV)} {o:Oper} {f:FuncId} {args:List Operand} (h:QoG vs o=some (f,args)):∃ t a T j w,o.op=.call { callee:=.value (.tmp t),args:=a,argTypes:=T }∧o.guard=some (j,w)∧a.toList=args∧(JO (look .any vs t)=.fn f []∨JO (look .any vs t)=.v (.func (.func f) #[] #[])):=by
 unfold QoG at h;split at h
 ·next t a T g ho hg =>
  obtain ⟨j,w⟩:=g;split at h
  ·next f' hl=>cases h;exact ⟨t,a,T,j,w,ho,hg,rfl,.inl hl⟩
  ·next f' hl=>cases h;exact ⟨t,a,T,j,w,ho,hg,rfl,.inr hl⟩
  ·cases h
 ·cases h
theorem Qf.callee {f:FuncId} {t:Nat} {d:Option Tmp} {a:Array Operand} {T:Array TypeId} {ty:TypeId} {ps:String} {af:Array Edge} {s s':AS} (hx:∀ (a:Act) (w:World) (φ:Qt) (Pub:Nat→Nat→Prop),(∀ x,RA w Pub φ (look .any s.slots x) (a.tmps.getD x undef))→a.eval (.tmp t)=.func (.func f) #[] #[])
  (k:Qf P E kp n ops ⟨d,.call { callee:=.value (.func f),args:=a,argTypes:=T },ty,ps,af,none⟩ s s'):Qf P E kp n ops ⟨d,.call { callee:=.value (.tmp t),args:=a,argTypes:=T },ty,ps,af,none⟩ s s':=by
 intro b w K Q hs hK;have h1:=k b w K Q hs hK;obtain ⟨φ,Pub,I,h0,hn,hsl⟩:=hs;have e:=hx b w φ Pub hsl;have e2:b.eval (.func f)=.func (.func f) #[] #[]:=rfl
 have e3:execOp b.eval ⟨d,.call { callee:=.value (.tmp t),args:=a,argTypes:=T },ty,ps,af,none⟩=execOp b.eval ⟨d,.call { callee:=.value (.func f),args:=a,argTypes:=T },ty,ps,af,none⟩:=by
  simp only [execOp,resolve,e,e2]
 unfold Oper.wp at h1 ⊢;rw [e3];exact h1
theorem Qk0:∀ {xs:List Operand} {st:AS} {f:Operand→AV},(∀ x∈xs,Gv (st.ev x) (f x)) → ∀ {ys:List AV},J4 (xs.map f) ys→J4 (xs.map st.ev) ys
 | [],_,_,_,_,h=>h
 | x::xs,st,f,hg,ys,h=>by
  rw [List.map_cons] at h ⊢;obtain ⟨y,zs,e,h1,h2⟩:=h;exact ⟨y,zs,e,(hg x (by simp)).trans h1,Qk0 (fun z hz=>hg z (Qy4 _ hz)) h2⟩
theorem Qv5 {o:Oper} {d m:Nat} {rest:List Oper} (hP:tab.ok P) (h:QkT tab st.slots o=some (d,m)) (hd:Qy9 d n=true) (k:∀ g:Bool,(g=true→m=0)→AO P E kp n ops Q rest (st.as.put d (.p (Qal g)))):AO P E kp n ops Q (o::rest) st.as:=by
 obtain ⟨dst,op,ty,ps,af,gd⟩:=o;unfold QkT at h;simp only at h;split at h
 ·next T x y T' =>
  split at h
  ·next d' =>
   split at h
   ·next e s b z _ _ _ _ hti =>
    obtain ⟨_,hT,_⟩:=(TT.find_ok hP hti).sl e s b z rfl;split at h
    ·next hy =>
     have gy:Gv (st.as.ev y) (.p (.v (.slice none 0 0))):=by
      rw [Jd];show Gv (Qw st.slots y).av _;rw [hy];exact Gv.r
     have gx:Gv (st.as.ev x) (Qw st.slots x).av:=by rw [Jd];exact Gv.r
     split at h
     ·next l hx=>cases h;rw [hx] at gx;exact AO.eqNil (m:=l.length) gx gy hT hd k
     ·next n' sz f hx=>cases h;rw [hx] at gx;exact AO.eqNil (m:=m) (cells:=lzC m sz f) (by have h3:=gx;unfold EV.av EV.pv at h3;exact h3) gy hT hd k
     ·next c n' hx=>cases h;rw [hx] at gx;exact AO.eqNil gx gy hT hd k
     ·cases h
    ·cases h
   ·cases h
  ·cases h
 ·cases h
theorem QsT {vs:List (Nat×EV)} {o:Oper} {d m:Nat} (h:QkT tab vs o=some (d,m)):o.dst=some d:=by
 obtain ⟨dst,op,ty,ps,af,gd⟩:=o;unfold QkT at h;simp only at h;split at h
 ·split at h
  ·split at h
   ·split at h
    ·split at h
     ·cases h;rfl
     ·cases h;rfl
     ·cases h;rfl
     ·cases h
    ·cases h
   ·cases h
  ·cases h
 ·cases h
theorem QsU {q:Operand} {vs:List (Nat×EV)} {bs:List (Nat×EB)} {a:Array Operand} {T:Array TypeId} {d j:Nat} {want c:Bool} {ty:TypeId} {ps:String} {af:Array Edge} {f:FuncId} {a5s:List EV} {res:EV} {C:List Prop} (S:Sub vs bs st)
  (hq:q=.func f∨∃ t,q=.tmp t∧(JO (look .any vs t)=.fn f []∨JO (look .any vs t)=.v (.func (.func f) #[] #[])))
  (hv:∀ s∈Q3 (q::a.toList),look EV.any vs s=look EV.any st.slots s) (hg:Yv ops vs j want=some c) (hds:Qy9 d n=true)
  (hfit:Qbz [] (QiV (WI (pkV vs (Q3 a.toList))) a.toList) a5s=some (C,[])) (hch:(res.av.inH [] && JG [] (avL a5s) && res.av.inD [])=true)
  (h1:c=true→Cf P f [] a5s [] res) (h2:∀ x∈Qeo (c=true) (WJ (pkV vs (Q3 (Op.call { callee:=.value q,args:=a,argTypes:=T }).operands.toList))++C),x) :
  Qf P E kp n ops ⟨some d,.call { callee:=.value q,args:=a,argTypes:=T },ty,ps,af,some (j,want)⟩ st.as (st.as.put d (EV.cnd c res).av):=by
 have eo:(Op.call { callee:=.value q,args:=a,argTypes:=T }).operands.toList=q::a.toList:=by simp [Op.operands,Call.operands]
 rw [eo,QdF hv] at h2
 have hva:∀ s∈Q3 a.toList,look EV.any vs s=look EV.any st.slots s:=fun s hs=>hv s (by
  cases q with
  | tmp t=>exact Qy4 _ hs
  | _=>exact hs)
 rw [QdF hva] at hfit
 have hsc:∀ x,x∈WJ (pkV st.slots (Q3 a.toList))→x∈WJ (pkV st.slots (Q3 (q::a.toList))):=fun x hx=>by
  cases q with
  | tmp t =>
   show x∈WJ ((t,look .any st.slots t)::pkV st.slots (Q3 a.toList));simp only [WJ];split
   ·exact Qy4 _ hx
   ·exact hx
  | _=>exact hx
 simp only [Qy3] at hch;refine Ji (x:=res) (QbP S hg) hds fun hc=>?_;have hev:=h1 hc;have hA:=JN hc h2;have sgv:=Qf5 (st:=st) (l:=Q3 a.toList) (fun c hc=>hA c (Qy5 _ (hsc c hc)));obtain ⟨_,_,a3⟩:=JL a5s hfit (fun c hc=>hA c (Qy6 _ hc));have a4:=a3 [] (Ext.refl _);have sgid:∀ x:AV,x.inD []=true→x.sg []=x:=Qm2
 have hargs:J4 (a.toList.map st.as.ev) (sgL [] (avL a5s)):=by
  rw [Qot,ZO,List.map_map] at a4;refine Qk0 (fun x hx=>?_) a4
  cases x with
  | tmp t =>
   have g1:=(sgv t).1;show Gv (look AV.any st.as.slots t) _
   have e:look EV.any (WI (pkV st.slots (Q3 a.toList))++st.slots) t=look EV.any (WI (pkV st.slots (Q3 a.toList))) t:=by
    rw [QF,if_pos]
    have hm:t∈Q3 a.toList:=by
     have:∀ (l:List Operand),Operand.tmp t∈l→t∈Q3 l:=by
      intro l
      induction l with
      | nil=>intro h;cases h
      | cons z l ih =>
       intro h;rcases Qza.1 h with e | e
       ·subst e;simp [Q3]
       ·cases z <;> simp [Q3,ih e]
     exact this _ hx
    have:∀ (l:List Nat),t∈l→QU t (WI (pkV st.slots l))=true:=by
     intro l
     induction l with
     | nil=>intro h;cases h
     | cons z l ih =>
      intro h;rcases Qza.1 h with e | e
      ·subst e;simp [pkV,WI,QU]
      ·simp [pkV,WI,QU,ih e]
    exact this _ hm
   rw [e] at g1;exact g1
  | const c=>rw [Jd];exact Gv.r
  | func f=>rw [Jd];exact Gv.r
  | global g=>rw [Jd];exact Gv.r
 have k:=Qu7 (P:=P) (E:=E) (kp:=kp) (n:=n) (ops:=ops) (st:=st.as) (d:=some d) (ty:=ty) (ps:=ps) (af:=af) (argTypes:=T) (hout:=[]) [] hev.1 hev.2 hargs (by simp only [Qy3];exact ⟨⟨⟨⟨rfl,hch.1.2⟩,rfl⟩,hch.2⟩,rfl⟩) (by rw [Qy3];exact ⟨rfl,hch.1.1⟩) rfl (Jj hds);have ea:a.toList.toArray=a:=by simp
 rw [ea] at k
 have lift:∀ s':AS,Qf P E kp n ops ⟨some d,.call { callee:=.value (.func f),args:=a,argTypes:=T },ty,ps,af,none⟩ st.as s'→Qf P E kp n ops ⟨some d,.call { callee:=.value q,args:=a,argTypes:=T },ty,ps,af,none⟩ st.as s':=fun s' k=>by
  rcases hq with rfl | ⟨t,rfl,hl⟩
  ·exact k
  ·refine Qf.callee (fun b w φ Pub hs=>?_) k;have hl2:look EV.any vs t=look EV.any st.slots t:=hv t (by simp [Q3]);rw [hl2] at hl;have h3:=hs t;have e0:look AV.any st.as.slots t=(look EV.any st.slots t).av:=WF _ _;rw [e0] at h3
   have h4:RA w Pub φ (JO (look EV.any st.slots t)).av (b.tmps.getD t undef):=by
    cases hx:look EV.any st.slots t with
    | cnd g y =>
     rw [hx] at h3
     have hgt:g=true:=hA (g=true) (Qy5 _ (by
      show (g=true)∈WJ ((t,look .any st.slots t)::pkV st.slots (Q3 a.toList))
      rw [hx];simp [WJ]))
     unfold EV.av RA at h3;exact h3.1 hgt
    | _=>rw [hx] at h3;exact h3
   show b.tmps.getD t undef=_;rcases hl with hl | hl
   ·rw [hl] at h4;unfold EV.av RA RP at h4;obtain ⟨us,e1,e2⟩:=h4
    have e3:us=[]:=by
     have:RPs w Pub (pvL []) us:=e2;unfold pvL RPs at this;exact this
    rw [e1,e3]
   ·rw [hl] at h4;unfold EV.av RA RP at h4;exact h4
 refine (lift _ k).cast ?_;show AS.mk ((d,res.av.sg [])::st.as.slots) _=AS.mk ((d,res.av)::st.as.slots) _;rw [sgid _ hch.2];rfl
theorem Qeb {bo:List Nat} {vs:List (Nat×EV)} {bs:List (Nat×EB)} {dst:Option Nat} {args:List Operand} {ce:List EV} {hin a5s hout res} {R:RS} (h:Qea bo vs bs dst args ce hin a5s hout res=some R) :
  Qd8 vs bs dst args ce hin a5s hout res=some R∨(hin=[]∧hout=[]∧∃ d C,dst=some d∧QsH vs bs args ce a5s res=some C∧R=⟨C,[(d,res)],[]⟩):=by
 unfold Qea at h;split at h
 ·next d =>
  cases hm:Q9 d bo with
  | false=>rw [hm] at h;exact .inl h
  | true =>
   rw [hm] at h;simp only [cond_true] at h;split at h
   ·split at h
    ·split at h
     ·next C hb=>cases h;exact .inr ⟨rfl,rfl,d,C,rfl,hb,rfl⟩
     ·cases h
    ·exact .inl h
   ·cases h
 ·exact .inl h
theorem Qk1 {bo:List Nat} {f:FuncId} {dst:Option Nat} {args:Array Operand} {argTypes:Array TypeId} {hin hout:List (Nat×EB)} {a5s:List EV} {res:EV} {R:RS} {vs:List (Nat×EV)} {bs:List (Nat×EB)} {ty:TypeId} {ps:String} {af:Array Edge} (S:Sub vs bs st) (hev:Cf P f hin a5s hout res)
  (h:Qea bo vs bs dst args.toList [] hin a5s hout res=some R) (hC:∀ c∈R.C,c) (hf:∀ p∈R.hp,(ob_ bs p.1).alive=true∨st.free kp p.1=true) (hd:∀ x,dst=some x→Qy9 x n=true) :
  Qf P E kp n ops ⟨dst,.call { callee:=.value (.func f),args:=args,argTypes },ty,ps,af,none⟩ st.as (R.app st).as:=by
 rcases Qeb h with h | ⟨rfl,rfl,d,C,rfl,hb,rfl⟩
 ·exact QsG S hev.1 hev.2 h hC hf hd
 ·exact QdE S hev.1 hev.2 (fun a w φ Pub hs=>⟨[],rfl,by unfold avL RAs;rfl⟩) hb hC (hd d rfl)
theorem QhC {bo:List Nat} {t:Nat} {f:FuncId} {dst:Option Nat} {args:Array Operand} {ce:List EV} {argTypes:Array TypeId} {hin hout:List (Nat×EB)} {a5s:List EV} {res:EV} {R:RS} {vs:List (Nat×EV)} {bs:List (Nat×EB)} {ty:TypeId} {ps:String} {af:Array Edge} (S:Sub vs bs st) (hev:Cf P f hin a5s hout res) (hl:look .any vs t=.fn f ce∨(look .any vs t=.v (.func (.func f) #[] #[])∧ce=[])) (hs:shL ce=true)
  (h:Qea bo vs bs dst args.toList ce hin a5s hout res=some R) (hC:∀ c∈R.C,c) (hf:∀ p∈R.hp,(ob_ bs p.1).alive=true∨st.free kp p.1=true) (hd:∀ x,dst=some x→Qy9 x n=true) :
  Qf P E kp n ops ⟨dst,.call { callee:=.value (.tmp t),args:=args,argTypes },ty,ps,af,none⟩ st.as (R.app st).as:=by
 rcases Qeb h with h | ⟨rfl,rfl,d,C,rfl,hb,rfl⟩
 ·exact Qqd S hev.1 hev.2 hl hs h hC hf hd
 ·exact QdE S hev.1 hev.2 (fun a w φ Pub hr=>QkO S hl hs hr) hb hC (hd d rfl)
theorem Qbf {bo:Bool} {q:Operand} {vs:List (Nat×EV)} {bs:List (Nat×EB)} {a:Array Operand} {T:Array TypeId} {d j:Nat} {want c:Bool} {ty:TypeId} {ps:String} {af:Array Edge} {f:FuncId} {a5s:List EV} {res:EV} {C:List Prop} (S:Sub vs bs st)
  (hq:q=.func f∨∃ t,q=.tmp t∧(JO (look .any vs t)=.fn f []∨JO (look .any vs t)=.v (.func (.func f) #[] #[])))
  (hv:∀ s∈Q3 (q::a.toList),look EV.any vs s=look EV.any st.slots s) (hg:Yv ops vs j want=some c) (hds:Qy9 d n=true)
  (hfit:Qhz bo (WI (pkV vs (Q3 a.toList))) bs a.toList a5s res=some C)
  (h1:c=true→Cf P f [] a5s [] res) (h2:∀ x∈Qeo (c=true) (WJ (pkV vs (Q3 (Op.call { callee:=.value q,args:=a,argTypes:=T }).operands.toList))++C),x) :
  Qf P E kp n ops ⟨some d,.call { callee:=.value q,args:=a,argTypes:=T },ty,ps,af,some (j,want)⟩ st.as (st.as.put d (EV.cnd c res).av):=by
 unfold Qhz at hfit
 cases bo with
 | false =>
  simp only [cond_false] at hfit;split at hfit
  ·next C' hf =>
   obtain ⟨hch,hfit⟩:=QQ hfit;cases hfit;exact QsU S hq hv hg hds hf hch h1 h2
  ·cases hfit
 | true =>
  simp only [cond_true] at hfit;have eo:(Op.call { callee:=.value q,args:=a,argTypes:=T }).operands.toList=q::a.toList:=by simp [Op.operands,Call.operands]
  rw [eo,QdF hv] at h2
  have hva:∀ s∈Q3 a.toList,look EV.any vs s=look EV.any st.slots s:=fun s hs=>hv s (by
   cases q with
   | tmp t=>exact Qy4 _ hs
   | _=>exact hs)
  rw [QdF hva] at hfit
  have hsc:∀ x,x∈WJ (pkV st.slots (Q3 a.toList))→x∈WJ (pkV st.slots (Q3 (q::a.toList))):=fun x hx=>by
   cases q with
   | tmp t =>
    show x∈WJ ((t,look .any st.slots t)::pkV st.slots (Q3 a.toList));simp only [WJ];split
    ·exact Qy4 _ hx
    ·exact hx
   | _=>exact hx
  refine Ji (x:=res) (QbP S hg) hds fun hc=>?_;have hev:=h1 hc;have hA:=JN hc h2;have sgv:=Qf5 (st:=st) (l:=Q3 a.toList) (fun c hc=>hA c (Qy5 _ (hsc c hc)));have k:=QdE (P:=P) (E:=E) (kp:=kp) (n:=n) (ops:=ops) (ty:=ty) (ps:=ps) (af:=af) (argTypes:=T) (dst:=d) (args:=a) (x:=.func f) (QhA (st:=st) (l:=Q3 a.toList) S.b) hev.1 hev.2 (fun b w φ Pub hs=>⟨[],rfl,by unfold avL RAs;rfl⟩) hfit (fun c hc=>hA c (Qy6 _ hc)) hds
  have k2:Qf P E kp n ops ⟨some d,.call { callee:=.value (.func f),args:=a,argTypes:=T },ty,ps,af,none⟩ st.as (st.as.put d res.av):=by
   refine (k.pre (st:=st.as) ?_).wk ?_
   ·refine QkU (sl:=st.as.slots) fun t=>?_;have:=(sgv t).1;rw [WF];exact this
   ·refine QkU (h:=st.as.heap) (sl:=(d,res.av)::avs (WI (pkV st.slots (Q3 a.toList))++st.slots)) fun t=>?_;have:=(sgv t).2;show Gv (look AV.any ((d,res.av)::avs _) t) (look AV.any ((d,res.av)::st.as.slots) t);rw [Qb,Qb];split
    ·exact Gv.r
    ·rw [WF];exact this
  rcases hq with rfl | ⟨t,rfl,hl⟩
  ·exact k2
  ·refine Qf.callee (fun b w φ Pub hs=>?_) k2;have hl2:look EV.any vs t=look EV.any st.slots t:=hv t (by simp [Q3]);rw [hl2] at hl;have h3:=hs t;have e0:look AV.any st.as.slots t=(look EV.any st.slots t).av:=WF _ _;rw [e0] at h3
   have h4:RA w Pub φ (JO (look EV.any st.slots t)).av (b.tmps.getD t undef):=by
    cases hx:look EV.any st.slots t with
    | cnd g y =>
     rw [hx] at h3
     have hgt:g=true:=hA (g=true) (Qy5 _ (by
      show (g=true)∈WJ ((t,look .any st.slots t)::pkV st.slots (Q3 a.toList))
      rw [hx];simp [WJ]))
     unfold EV.av RA at h3;exact h3.1 hgt
    | _=>rw [hx] at h3;exact h3
   show b.tmps.getD t undef=_;rcases hl with hl | hl
   ·rw [hl] at h4;unfold EV.av RA RP at h4;obtain ⟨us,e1,e2⟩:=h4
    have e3:us=[]:=by
     have:RPs w Pub (pvL []) us:=e2;unfold pvL RPs at this;exact this
    rw [e1,e3]
   ·rw [hl] at h4;unfold EV.av RA RP at h4;exact h4
theorem QsV {o:Oper} {d r q:Nat} {s:List Nat} {es:XF} {rest:List Oper} (h:QoF st.slots st.heap o=some (d,r,q,es.length,s,es.length,es)) (hd:XR o.dst n=true)
  (h1:∀ i:Nat,i < es.length→¬ i∈s→AO P E kp n ops Q rest (ES.as ⟨(d,.tup [.b true,.any,.any])::st.slots,(r,.it q es.length (i::s) es.length)::st.heap⟩)) (h2:(∀ i:Nat,i < es.length→i∈s)→AO P E kp n ops Q rest (ES.as ⟨(d,.tup [.b false])::st.slots,st.heap⟩)) :
  AO P E kp n ops Q (o::rest) st.as:=by
 unfold QoF at h;cases h
theorem Xq (hP:tab.ok P):∀ (os:List Oper) (st:ES) (K:ES→Prop),QcJ P kp n tab H ops os st K→(∀ st',K st'→To E kp n Q .normal st'.as)→AO P E kp n ops Q os st.as
 | [],st,K,h,hK=>AO.nil (hK st h)
 | o::os,⟨sl,hp⟩,K,h,hK=>by
  unfold QcJ at h
  let st:ES:=⟨sl,hp⟩
  cases hds:XR o.dst n with
  | false=>rw [hds] at h;exact h.elim
  | true =>
   rw [hds] at h;simp only [cond_true] at h
   have gen:goR kp sl hp (fun st'=>QcJ P kp n tab H ops os st' K) (QcI tab H ops sl hp o)→AO P E kp n ops Q (o::os) st.as:=fun h=>by
    obtain ⟨R,h1,h2,h3,h4⟩:=Qm4 (st:=st) h;exact AO.step (QkX (Sub.full st) (fun _ _=>rfl) hP h1 h3 h2 hds) (Xq hP os _ K h4 hK)
   split at h
   ·next f args ce hce =>
    rcases QkY hce with ⟨rfl,hc⟩ | ⟨rfl,hc⟩ | ⟨l,rfl,hc⟩
    ·obtain ⟨a,T,ho,ha⟩:=QhB hc;obtain ⟨dst,op,ty,ps,af,gd⟩:=o;simp only at ho h hds;subst ho ha;split at h
     ·obtain ⟨hin,a5s,hout,res,hev,h⟩:=h;obtain ⟨R,h1,h2,h3,h4⟩:=Qm4 (st:=st) h;exact AO.step (Qk1 (Sub.full st) hev h1 h3 h2 (Jj hds)) (Xq hP os _ K h4 hK)
     ·next j want =>
     split at h
     ·next d c _ hg =>
      obtain ⟨a5s,res,h⟩:=h;split at h
      ·next C hfit =>
       obtain ⟨h1,h2⟩:=h;obtain ⟨h3,h2⟩:=JM h2;refine AO.step (Qbf (q:=.func f) (Sub.full st) (.inl rfl) (fun _ _=>rfl) hg hds hfit h1 h3) (Xq hP os _ K h2 hK)
      ·exact h.elim
     ·exact h.elim
    ·obtain ⟨t,a,T,j',w',ho,hgd,ha,hq⟩:=QkZ hc;obtain ⟨dst,op,ty,ps,af,gd⟩:=o;simp only at ho h hds hgd;subst ho ha hgd;split at h
     ·next hgn=>cases hgn
     ·next j want hgn =>
     cases hgn;split at h
     ·next d c _ hg =>
      obtain ⟨a5s,res,h⟩:=h;split at h
      ·next C hfit =>
       obtain ⟨h1,h2⟩:=h;obtain ⟨h3,h2⟩:=JM h2;refine AO.step (Qbf (q:=.tmp t) (Sub.full st) (.inr ⟨t,rfl,hq⟩) (fun _ _=>rfl) hg hds hfit h1 h3) (Xq hP os _ K h2 hK)
      ·exact h.elim
     ·exact h.elim
    ·obtain ⟨t,a,T,ho,ha,hl,hs⟩:=QkN hc;obtain ⟨dst,op,ty,ps,af,gd⟩:=o;simp only at ho h hds;subst ho ha;split at h
     ·obtain ⟨hin,a5s,hout,res,hev,h⟩:=h;obtain ⟨R,h1,h2,h3,h4⟩:=Qm4 (st:=st) h;exact AO.step (QhC (Sub.full st) hev hl hs h1 h3 h2 (Jj hds)) (Xq hP os _ K h4 hK)
     ·exact h.elim
   ·split at h
    ·next d r q since s last es hnx =>
     obtain ⟨⟨e1,e2⟩,h1,h2⟩:=h;subst e1 e2;exact QsV hnx hds (fun i hi hs=>Xq hP os _ K (h1 i hi hs) hK) (fun ha=>Xq hP os _ K (h2 ha) hK)
    ·split at h
     ·next d m hn =>
      have hd:Qy9 d n=true:=by
       rw [QsT hn] at hds;exact hds
      exact Qv5 hP hn hd fun g hg=>Xq hP os ⟨(d,.b g)::st.slots,st.heap⟩ K (h g hg) hK
     ·split at h
      ·next d hdd =>
       cases hm:Q9 d H.man with
       | true =>
        rw [hm] at h;obtain ⟨st',h1,h2⟩:=h;exact AO.step (h1 E) (Xq hP os st' K h2 hK)
       | false=>rw [hm] at h;exact gen h
      ·exact gen h
end
def WkG (kp:List Nat) (st st':ES):Prop:=match wkF kp st st' with
 | some C=>obA C True
 | none=>False
section
variable (P:Program) (kp:List Nat) (n:Nat) (tab:TT) (H:Hi)
def Qv6 (D:Nat→Array Oper→ES→(ES→Prop)→Prop) (id:Nat) (ops:Array Oper) (st:ES) (K:ES→Prop):Bool→Prop
 | false=>QcJ P kp n tab H ops ops.toList st K
 | true=>D id ops st K
def wpC (D:Nat→Array Oper→ES→(ES→Prop)→Prop):Code→(Exit→ES→Prop)→ES→Prop
 | .skip,K,st=>K .normal st
 | .region id ops draw,K,st=>bif Q9 id H.cu then (∃ st':ES,WkG kp st st'∧Qv6 P kp n tab H D id ops st' (K .normal) draw) else Qv6 P kp n tab H D id ops st (K .normal) draw
 | .seq a b,K,st=>wpC D a (fun e st'=>match e with | .normal=>wpC D b K st' | e=>K e st') st
 | .cond c a b,K,st=>match Qw st.slots c with
  | .v (.bool g)=>(g=true→wpC D a K st)∧(g=false→wpC D b K st)
  | _=>False
 | .block id c,K,st=>wpC D c (fun e st'=>match e with | .exit i=>bif Qzc i id then K .normal st' else K (.exit i) st' | e=>K e st') st
 | .loop c,K,st=>∃ (α:Type) (I:α→ES) (ok:α→Prop) (μ:α→Nat) (x0:α),ok x0∧WkG kp st (I x0) ∧
   ∀ x,ok x→wpC D c (fun e st'=>match e with | .normal=>∃ y,ok y∧μ y < μ x∧WkG kp st' (I y) | e=>K e st') (I x)
 | .exit id,K,st=>K (.exit id) st
 | .ret,K,st=>K .ret st
 | _,_,_=>False
end
section
variable {P:Program} {E:Env} {kp:List Nat} {n:Nat} {tab:TT} {H:Hi}
theorem Qm5 {st st':ES} (h:WkG kp st st'):Wk E kp n st.as st'.as:=by
 unfold WkG at h;split at h
 ·next C hc=>exact Qx4 hc (JM h).1
 ·exact h.elim
def DOk (P:Program) (kp:List Nat) (n:Nat) (D:Nat→Array Oper→ES→(ES→Prop)→Prop):Prop :=
 ∀ (E:Env) (id:Nat) (ops:Array Oper) (st:ES) (K:ES→Prop) (Q:Exit→Act→World→Prop),D id ops st K→(∀ st',K st'→To E kp n Q .normal st'.as)→AW P E kp n (.region id ops true) Q st.as
theorem QbQ {D:Nat→Array Oper→ES→(ES→Prop)→Prop} (hP:tab.ok P) (hD:DOk P kp n D):∀ (c:Code) (K:Exit→ES→Prop) (Q:Exit→Act→World→Prop) (st:ES),wpC P kp n tab H D c K st→(∀ e st',K e st'→To E kp n Q e st'.as)→AW P E kp n c Q st.as
 | .skip,K,Q,st,h,hK=>AW.skip (hK _ _ h)
 | .region id ops draw,K,Q,st,h,hK=>by
  have main:∀ st:ES,Qv6 P kp n tab H D id ops st (K .normal) draw→AW P E kp n (.region id ops draw) Q st.as:=fun st h=>by
   cases draw with
   | false =>
    have e:ops=ops.toList.toArray:=by simp
    have k:=Xq (E:=E) (Q:=Q) hP ops.toList st _ h (fun st' h'=>hK _ _ h');have k2:AO P E kp n ops.toList.toArray Q ops.toList st.as:=by rw [← e];exact k
    rw [e];exact AW.region k2
   | true=>exact hD E id ops st _ Q h (fun st' h'=>hK _ _ h')
  unfold wpC at h
  cases hc:Q9 id H.cu with
  | true =>
   rw [hc] at h;obtain ⟨st',hw,h⟩:=h;exact AW.wk (Qm5 hw) (main st' h)
  | false=>rw [hc] at h;exact main st h
 | .seq a b,K,Q,st,h,hK=>by
  unfold wpC at h;refine AW.seq (QbQ hP hD a _ _ st h fun e st' h'=>?_)
  cases e with
  | normal=>exact To.seq (QbQ hP hD b K Q st' h' hK)
  | _=>exact hK _ _ h'
 | .cond c a b,K,Q,st,h,hK=>by
  unfold wpC at h;split at h
  ·next g hc =>
   refine AW.cond (g:=g) (by rw [Jd];show Gv (Qw st.slots c).av _;rw [hc];exact Gv.r) (fun hg=>QbQ hP hD a K Q st (h.1 hg) hK) (fun hg=>QbQ hP hD b K Q st (h.2 hg) hK)
  ·exact h.elim
 | .block id c,K,Q,st,h,hK=>by
  unfold wpC at h;refine AW.block (QbQ hP hD c _ _ st h fun e st' h'=>?_)
  cases e with
  | exit i =>
   simp only at h'
   cases hb:Qzc i id with
   | true =>
    rw [hb] at h';have e:=Qe hb;subst e;exact To.block_exit (hK _ _ h')
   | false =>
    rw [hb] at h';exact To.block_exit_ne (fun e=>by subst e;simp at hb) (hK _ _ h')
  | _=>exact hK _ _ h'
 | .loop c,K,Q,st,h,hK=>by
  unfold wpC at h;obtain ⟨α,I,ok,μ,x0,h0,hst,hround⟩:=h;refine AW.loop (fun x=>(I x).as) ok μ x0 h0 (Qm5 hst) fun x hx K' hK'=>?_;refine QbQ hP hD c _ _ (I x) (hround x hx) fun e st' h'=>?_
  cases e with
  | normal =>
   obtain ⟨y,hy,hlt,hw⟩:=h';exact To.then_normal (To.wk (Qm5 hw) (hK' y hy hlt))
  | _=>exact hK _ _ h'
 | .exit id,K,Q,st,h,hK=>AW.exit (hK _ _ h)
 | .ret,K,Q,st,h,hK=>AW.ret (hK _ _ h)
 | .rangeFunc _ _ _ _,_,_,_,h,_=>by unfold wpC at h;exact h.elim
 | .scope _,_,_,_,h,_=>by unfold wpC at h;exact h.elim
 | .label _,_,_,_,h,_=>by unfold wpC at h;exact h.elim
 | .goto _,_,_,_,h,_=>by unfold wpC at h;exact h.elim
 | .refuse _,_,_,_,h,_=>by unfold wpC at h;exact h.elim
end
end
section
open Go.RowKit
def Qg1 (tab:TT) (st:ES):List ResultVar→Option (List EV)
 | []=>some []
 | .tmp t::l=>match Qg1 tab st l with
  | some m=>some (look .any st.slots t::m)
  | none=>none
 | .cell c T::l=>match look .any st.slots c with
  | .own r off=>match ob_ st.heap r with
   | .bz n f _=>match tab.find T with
    | some ti=>bif ti.agg && Qzc off 0 && Qzc ti.sz n then (match Qg1 tab st l with
     | some m=>some (.az n f::m)
     | none=>none) else none
    | none=>none
   | .box cells _=>match tab.find T with
    | some ti=>match Qdx ti true off cells with
     | some (_,x)=>match Qg1 tab st l with
      | some m=>some (x::m)
      | none=>none
     | none=>none
    | none=>none
   | _=>none
  | _=>none
def Qqh:List EV→EV
 | [x]=>x
 | l=>.tup l
def idK (hout:List (Nat×EB)):List Nat→List (Nat×Nat)
 | []=>[]
 | q::l=>bif QU q hout then (q,q)::idK hout l else idK hout l
def Qk2 (tab:TT) (kp:List Nat) (rs:List ResultVar) (hout:List (Nat×EB)) (res:EV) (st:ES):Prop :=
 match Qg1 tab st rs with
 | none=>False
 | some l=>match cvE st.heap (Qqh l) res with
  | none=>False
  | some (C0,z,F)=>match fit (idK hout kp) z res with
   | none=>False
   | some (C1,τ)=>match Qg0 (F++st.heap) τ hout with
    | none=>False
    | some (C2,σ)=>bif Qm0 kp σ && ZR (idK hout kp) && ndB st.heap F then obA (C0++(C1++C2)) True else False
section
variable {P:Program} {E:Env} {kp:List Nat} {n:Nat} {tab:TT} {H:Hi}
theorem Qv7 {st:ES} (hP:tab.ok P) {c r off:Nat} {T t:TypeId} {cells:List EV} {ti:TI} {C:List Prop} {x:EV} (hc:look .any st.slots c=.own r off) (hb:ob_ st.heap r=.box cells t) (hti:tab.find T=some ti) (hg:Qdx ti true off cells=some (C,x)) :
  Qj8 P st.as (.cell c T) x.av:=by
 have hT:=TT.find_ok hP hti
 have hs:Gv (look AV.any st.as.slots c) (.own r off):=by
  have e:look AV.any st.as.slots c=(look EV.any st.slots c).av:=WF _ _;rw [e,hc];exact Gv.r
 have hl:st.as.ob r=.box (avL cells) t:=by rw [Qr7];show (ob_ st.heap r).ob=_;rw [hb];rfl
 unfold Qdx at hg
 cases ha:ti.agg with
 | true =>
  rw [ha] at hg;simp only [cond_true] at hg;split at hg
  ·next l hq =>
   simp only [Bool.true_or,cond_true] at hg;cases hg;obtain ⟨h1,h2⟩:=QdA hq;rw [Qay] at h1;exact Qj8.boxN (l:=avL l) hs (by rw [hT.agg,ha]) hT.sz hl (by rw [h1,QfK,QfJ]) (by rw [QJ];exact h2) Gv.r
  ·cases hg
 | false =>
  rw [ha] at hg;simp only [cond_false] at hg;split at hg
  ·next z hq =>
   simp only [Bool.true_or,cond_true] at hg;cases hg;rw [VD] at hq;exact Qj8.box1 hs (by rw [hT.agg,ha]) hl (by rw [Qcy,hq];rfl) Gv.r
  ·cases hg
theorem QoJ {st:ES} (hP:tab.ok P) {φ:Qt} {Pub:Nat→Nat→Prop} {w:World} {a:Act} (I:Inv E kp φ Pub st.as.heap w) (hs:∀ s,RA w Pub φ (look .any st.as.slots s) (a.tmps.getD s undef)) :
  ∀ {rs:List ResultVar} {l:List EV},Qg1 tab st rs=some l→∃ vs:List Value,(rs.mapM (Qhh a.tmps)).run P w=.ok vs w∧RAs w Pub φ (avL l) vs
 | [],l,h=>by
  unfold Qg1 at h;cases h;exact ⟨[],by simp,by unfold avL RAs;rfl⟩
 | rv::rs,l,h=>by
  have one:∀ {x:EV} {m:List EV},Qj8 P st.as rv x.av→Qg1 tab st rs=some m→∃ vs:List Value,((rv::rs).mapM (Qhh a.tmps)).run P w=.ok vs w∧RAs w Pub φ (avL (x::m)) vs:=fun {x m} hr hm=>by
   obtain ⟨u,hu,hR⟩:=hr E kp a w φ Pub I hs;obtain ⟨vs,h1,h2⟩:=QoJ hP I hs hm;refine ⟨u::vs,?_,by unfold avL RAs;exact ⟨u,vs,rfl,hR,h2⟩⟩;simp [List.mapM_cons,hu,h1]
  cases rv with
  | tmp t =>
   simp only [Qg1] at h;split at h
   ·next m hm =>
    cases h
    exact one (Qj8.tmp (by
     have e:look AV.any st.as.slots t=(look EV.any st.slots t).av:=WF _ _
     rw [e];exact Gv.r)) hm
   ·cases h
  | cell c T =>
   simp only [Qg1] at h;split at h
   ·next r off hc =>
    split at h
    ·next m' f t hb =>
     split at h
     ·next ti hti =>
      obtain ⟨hg,h⟩:=QQ h;split at h
      ·next m hm =>
       cases h;simp only [Qy3] at hg;have e1:=Qe hg.1.2;have e2:=Qe hg.2;subst e1;have hT:=TT.find_ok hP hti
       have hs:Gv (look AV.any st.as.slots c) (.own r 0):=by
        have e:look AV.any st.as.slots c=(look EV.any st.slots c).av:=WF _ _;rw [e,hc];exact Gv.r
       have hl:st.as.ob r=.box ((azC m' f).map AV.p) t:=by rw [Qr7];show (ob_ st.heap r).ob=_;rw [hb];rfl
       exact one (x:=.az m' f) (Qj8.boxN (l:=(azC m' f).map AV.p) hs (by rw [hT.agg,hg.1.1]) hT.sz hl (by rw [e2,List.drop_zero,List.take_of_length_le (by simp)]) (by simp [e2]) Gv.agg) hm
      ·cases h
     ·cases h
    ·next cells t hb =>
     split at h
     ·next ti hti =>
      split at h
      ·next C x hg =>
       split at h
       ·next m hm=>cases h;exact one (Qv7 hP hc hb hti hg) hm
       ·cases h
      ·cases h
     ·cases h
    ·cases h
   ·cases h
theorem QoK {st:ES} (hP:tab.ok P) {fn:Func} {rs:List ResultVar} {hout:List (Nat×EB)} {res:EV} (hr:fn.results=rs.toArray) (h:Qk2 tab kp rs hout res st):To E kp n (bodyPost P fn (Qis E kp (obs hout) res.av)) .ret st.as:=by
 rintro a w ⟨φ,Pub,I,h0,hn,hs⟩;unfold Qk2 at h;split at h
 ·exact h.elim
 ·next l hl =>
  split at h
  ·exact h.elim
  ·next C0 z F hcv =>
   split at h
   ·exact h.elim
   ·next C1 τ hfit =>
    split at h
    ·exact h.elim
    ·next C2 σ hfh =>
     cases hk0:Qm0 kp σ && ZR (idK hout kp) && ndB st.heap F with
     | false=>rw [hk0] at h;exact h.elim
     | true =>
      rw [hk0] at h;rw [Qy3] at hk0;obtain ⟨hk0,hnd⟩:=hk0;rw [Qy3] at hk0;have hk:=hk0.1;obtain ⟨hC,_⟩:=JM h;obtain ⟨vs,h1,h2⟩:=QoJ hP I hs hl
      obtain ⟨v,hv,hR⟩:∃ v,(results fn a.tmps).run P w=.ok v w∧RA w Pub φ (Qqh l).av v:=by
       have hlen:=Wf h2;rw [QJ] at hlen;refine ⟨if h:vs.toArray.size=1 then vs.toArray[0] else .tuple vs.toArray,?_,?_⟩
       ·rw [QmC,hr];simp [List.mapM_toArray,h1]
       ·match l,vs,h2,hlen with
        | [x],[u],h2,_ =>
         unfold avL RAs at h2;obtain ⟨u',us,e,h3,_⟩:=h2;cases e;simpa [Qqh] using h3
        | [],[],h2,_=>simp only [Qqh];unfold EV.av RA;exact ⟨[],by simp,h2⟩
        | x::y::l,u::u'::us,h2,_=>simp only [Qqh];unfold EV.av RA;exact ⟨u::u'::us,by simp,h2⟩
      obtain ⟨f1,Pub',I',H',R'⟩:=QsE (Sub.full st) (F0:=[]) res hcv (fun c hc=>hC c (Qy5 _ hc)) (fun r e hm=>by cases hm) (by rw [Qzb];exact hnd) I hR;rw [Qzb] at I';obtain ⟨a1,a2,a3⟩:=QmZ res hfit (fun c hc=>hC c (Qy6 _ (Qy5 _ hc)));obtain ⟨b1,b2,b3⟩:=QeD hfh (fun c hc=>hC c (Qy6 _ (Qy6 _ hc)));have ho:ZR σ=true:=b2 (a2 hk0.2);obtain ⟨c1,c2⟩:=b3 σ (Ext.refl _);refine ⟨h0,v,hv,v,(fun q=>if WE q σ=true then φ (sg σ q) else φ q),Pub',rfl,I'.ren ho hk c1 (fun q hq=>?_),?_⟩
      ·have e1:look OB.dead (obs hout) q=(look EB.dead hout q).ob:=WG _ _;have e2:look OB.dead (obs (F++st.heap)) (sg σ q)=(look EB.dead (F++st.heap) (sg σ q)).ob:=WG _ _;rw [e1,YN] at hq;rw [e1,e2];exact c2 q hq
      ·exact (Qfy (ψ:=φ) (fun q hq=>(if_pos hq).symm) _ _ (QiT res hfit σ b1)).1 (a3 σ b1 _ _ _ _ R')
def slE:Nat→List EV→List (Nat×EV)
 | _,[]=>[]
 | i,x::xs=>(i,x)::slE (i+1) xs
theorem QoL:∀ (i:Nat) (l:List EV),avs (slE i l)=JB i (avL l)
 | _,[]=>rfl
 | i,x::xs=>by simp only [slE,avs,avL,JB,QoL (i+1) xs]
def D0:Nat→Array Oper→ES→(ES→Prop)→Prop:=fun _ _ _ _=>False
theorem D0_ok {m:Nat}:DOk P kp m D0:=fun _ _ _ _ _ _ h _=>h.elim
theorem Cf.intro {f m:Nat} {fn:Func} {c:Code} {rs:List ResultVar} {hin hout:List (Nat×EB)} {a5s:List EV} {res:EV} (tab:TT) (H:Hi) (D:Nat→Array Oper→ES→(ES→Prop)→Prop) (hcall:Wp P f=true) (hP:tab.ok P) (hf:P.funcs[f]? = some fn) (hm:fn.ntmps=m) (hb:fn.body=some c) (hr:fn.results=rs.toArray)
  (hD:DOk P (hin.map (·.1)) m D) (hk:Nat.ble a5s.length m=true)
  (h:QgY (fun sl=>wpC P (hin.map (·.1)) m tab H D c (fun e st=>match e with | .ret=>Qk2 tab (hin.map (·.1)) rs hout res st | .normal=>Qk2 tab (hin.map (·.1)) rs hout res st | _=>False) ⟨sl,hin⟩) [] (slE 0 a5s)):Cf P f hin a5s hout res:=by
 rw [YP,Qzb] at h;refine ⟨hcall,Ev.intro hf hb hm (by rw [QJ];exact Nat.le_of_ble_eq_true hk) (fun E=>?_)⟩
 have ek:(obs hin).map (·.1)=hin.map (·.1):=by
  clear h hD
  induction hin with
  | nil=>rfl
  | cons p l ih=>simp [obs,ih]
 rw [ek,← QoL];refine QbQ (E:=E) hP hD c _ _ ⟨slE 0 a5s,hin⟩ h fun e st h'=>?_
 cases e with
 | ret=>exact QoK hP hr h'
 | normal=>exact To.ret_normal (QoK hP hr h')
 | _=>exact h'.elim
end
end
section
open Go.RowKit
structure EF where
 sl:List (Nat×EV)
 hp:List (Nat×EB)
 rd:List Nat
 tb:List Nat
 nw:List Nat
def XH (L:Nat→Bool) (b:List (Nat×EV)):List EF→List (Nat×EV)
 | []=>b
 | e::es=>if L es.length=true then e.sl++XH L b es else XH L b es
def XI (L:Nat→Bool) (b:List (Nat×EB)):List EF→List (Nat×EB)
 | []=>b
 | e::es=>if L es.length=true then e.hp++XI L b es else XI L b es
def Qm6 {α:Type} (f:Nat→Bool):List (Nat×α)→Bool
 | []=>false
 | p::l=>f p.1 || Qm6 f l
def Qv8 (f:Nat→Bool):List Nat→Bool
 | []=>false
 | p::l=>f p || Qv8 f l
theorem XS {α:Type} {f:Nat→Bool} {s:Nat}:∀ {l:List (Nat×α)},QU s l=true→f s=true→Qm6 f l=true
 | [],h,_=>by cases h
 | (k,x)::l,h,hf=>by
  simp only [QU,Qy8] at h;simp only [Qm6,Qy8];rcases h with h | h
  ·exact .inl (by rw [Qe h];exact hf)
  ·exact .inr (XS h hf)
theorem Qi2 {f:Nat→Bool} {s:Nat}:∀ {l:List Nat},s∈l→f s=true→Qv8 f l=true
 | [],h,_=>by cases h
 | k::l,h,hf=>by
  simp only [Qv8,Qy8];rcases Qza.1 h with h | h
  ·exact .inl (by rw [← h];exact hf)
  ·exact .inr (Qi2 h hf)
def Jk (e f:EF):Bool :=
 Qm6 (fun s=>Q9 s f.rd || QU s f.sl) e.sl || (Qm6 (fun s=>Q9 s e.rd) f.sl || (Qm6 (fun r=>Q9 r f.tb || QU r f.hp) e.hp || (Qm6 (fun r=>Q9 r e.tb) f.hp || Qv8 (fun r=>Vb r f.sl || VQ r f.hp) e.nw)))
def Qm7 (m i:Nat):Bool:=Qzc (Nat.land (Nat.shiftRight m i) 1) 1
theorem QoM (m i:Nat):Qm7 m i=Qy7 m i:=by
 unfold Qm7 Qy7
 have h:Nat.land (Nat.shiftRight m i) 1=(m >>> i) % 2:=by
  show (m >>> i) &&& 1=_;exact Nat.and_one_is_mod _
 have h2:(1 &&& m >>> i)=(m >>> i) % 2:=Nat.one_and_eq_mod_two _;rw [h,h2];have:=Nat.mod_two_eq_zero_or_one (m >>> i);rcases this with k | k <;> rw [k] <;> rfl
def Qec (m:Nat) (f:EF):Nat→List EF→Bool
 | _,[]=>true
 | 0,_::_=>false
 | i+1,e::es=>(Qm7 m i || !Jk e f) && Qec m f i es
def orM (ms:List Nat):List Nat→Nat
 | []=>0
 | j::l=>Nat.lor (Nat.lor (ms.getD j 0) (Nat.shiftLeft 1 j)) (orM ms l)
def QoN (i:Nat):List Nat→Bool
 | []=>true
 | j::l=>Qy9 j i && QoN i l
def VF (ops:Array Oper) (ms:List Nat):Nat→Bool
 | 0=>true
 | i+1=>(QoN i (Wq ops i) && Qzc (Nat.lor (orM ms (Wq ops i)) (ms.getD i 0)) (orM ms (Wq ops i))) && VF ops ms i
theorem Qk3 {i:Nat}:∀ {l:List Nat},QoN i l=true → ∀ j∈l,j < i
 | [],_,j,hj=>by cases hj
 | k::l,h,j,hj=>by
  simp only [QoN,Qy3] at h;rcases Qza.1 hj with e | e
  ·subst e;have:=h.1;rwa [Nat.blt_eq] at this
  ·exact Qk3 h.2 j e
theorem QsW {ms:List Nat} {k:Nat}:∀ {l:List Nat},Qy7 (orM ms l) k=true→∃ j∈l,j=k∨Qy7 (ms.getD j 0) k=true
 | [],h=>by simp [orM] at h
 | j::l,h=>by
  unfold orM at h;have h:Qy7 (((ms.getD j 0) ||| (1 <<< j)) ||| orM ms l) k=true:=h;rw [Qzd,Qzd,Qy8,Qy8] at h;rcases h with (h | h) | h
  ·exact ⟨j,by simp,.inr h⟩
  ·refine ⟨j,by simp,.inl ?_⟩;rw [Nat.testBit_shiftLeft] at h;simp only [Qy3,decide_eq_true_eq,Nat.testBit_one_eq_true_iff_self_eq_zero] at h;omega
  ·obtain ⟨j',h1,h2⟩:=QsW h;exact ⟨j',Qy4 _ h1,h2⟩
theorem QbR {ops:Array Oper} {ms:List Nat} {i:Nat}:∀ {m:Nat},VF ops ms m=true→i < m→(∀ j∈Wq ops i,j < i) ∧ ∀ k,Qm7 (ms.getD i 0) k=true→Qy7 (orM ms (Wq ops i)) k=true
 | 0,_,h=>by omega
 | m+1,ho,h=>by
  simp only [VF,Qy3] at ho;by_cases e:i=m
  ·subst e;refine ⟨Qk3 ho.1.1,fun k hk=>?_⟩;have e2:=Qe ho.1.2;rw [QoM] at hk;rw [← e2];show Qy7 (_ ||| _) k=true;rw [Qzd,hk,Bool.or_true]
  ·exact QbR ho.2 (by omega)
theorem QoO {ops:Array Oper} {ms:List Nat} {m:Nat} (ho:VF ops ms m=true) {L:Nat→Bool} (hL:∀ i,i < m→L i=true → ∀ j∈Wq ops i,L j=true) :
  ∀ i,i < m→(∀ j∈Wq ops i,L j=true) → ∀ k,Qm7 (ms.getD i 0) k=true→L k=true:=by
 intro i
 induction i using Nat.strongRecOn with
 | _ i ih =>
  intro hi hd k hk;obtain ⟨h1,h2⟩:=QbR ho hi;obtain ⟨j,hj,h3⟩:=QsW (h2 k hk);rcases h3 with rfl | h3
  ·exact hd _ hj
  ·have hji:=h1 j hj;exact ih j hji (by omega) (hL j (by omega) (hd j hj)) k (by rw [QoM];exact h3)
def ZA (i:Nat):List EF→Option EF
 | []=>none
 | e::es=>if i=es.length then some e else ZA i es
def Jl (i:Nat):List EF→List EF
 | []=>[]
 | e::es=>if i≤es.length then Jl i es else e::es
theorem ZY {i:Nat} {f:EF}:∀ {es:List EF},ZA i es=some f→i < es.length
 | [],h=>by cases h
 | e::es,h=>by
  unfold ZA at h;split at h
  ·next k=>subst k;simp
  ·have:=ZY h;simp;omega
theorem Jm {L L':Nat→Bool} {b:List (Nat×EV)} {s:Nat}:∀ {es:List EF},(∀ k f,ZA k es=some f→QU s f.sl=true→L k=L' k)→look EV.any (XH L b es) s=look EV.any (XH L' b es) s
 | [],_=>rfl
 | e::es,h=>by
  have ih:=Jm (L:=L) (L':=L') (b:=b) (s:=s) (es:=es) (fun k f hk hs=>h k f (by
   unfold ZA;rw [if_neg (by have:=ZY hk;omega)];exact hk) hs)
  have h0:=h es.length e (by simp [ZA]);unfold XH
  cases hs:QU s e.sl with
  | true =>
   rw [h0 hs];split
   ·rw [QF,QF,if_pos hs,if_pos hs]
   ·exact ih
  | false =>
   have hn:∀ X:List (Nat×EV),look EV.any (e.sl++X) s=look EV.any X s:=fun X=>by rw [QF,if_neg (by rw [hs];simp)]
   split <;> split <;> (try simp only [hn]) <;> exact ih
theorem Jn {L L':Nat→Bool} {b:List (Nat×EB)} {s:Nat}:∀ {es:List EF},(∀ k f,ZA k es=some f→QU s f.hp=true→L k=L' k)→look EB.dead (XI L b es) s=look EB.dead (XI L' b es) s
 | [],_=>rfl
 | e::es,h=>by
  have ih:=Jn (L:=L) (L':=L') (b:=b) (s:=s) (es:=es) (fun k f hk hs=>h k f (by
   unfold ZA;rw [if_neg (by have:=ZY hk;omega)];exact hk) hs)
  have h0:=h es.length e (by simp [ZA]);unfold XI
  cases hs:QU s e.hp with
  | true =>
   rw [h0 hs];split
   ·rw [QF,QF,if_pos hs,if_pos hs]
   ·exact ih
  | false =>
   have hn:∀ X:List (Nat×EB),look EB.dead (e.hp++X) s=look EB.dead X s:=fun X=>by rw [QF,if_neg (by rw [hs];simp)]
   split <;> split <;> (try simp only [hn]) <;> exact ih
theorem Qk4 {L:Nat→Bool} {b:List (Nat×EV)} {s i:Nat} {e:EF} (hs:QU s e.sl=true):∀ {es:List EF},ZA i es=some e→L i=true→(∀ k f,i < k→ZA k es=some f→QU s f.sl=true→L k=false)→look EV.any (XH L b es) s=look EV.any e.sl s
 | [],h,_,_=>by cases h
 | f::es,h,hi,hk=>by
  unfold ZA at h;unfold XH;split at h
  ·next e1=>cases h;rw [← e1,if_pos hi,QF,if_pos hs]
  ·next hne =>
   have hlt:=ZY h
   have ih:=Qk4 (L:=L) (b:=b) hs h hi (fun k g h1 h2 h3=>hk k g h1 (by
    unfold ZA;rw [if_neg (by have:=ZY h2;omega)];exact h2) h3)
   split
   ·next hL =>
    cases hf:QU s f.sl with
    | true=>rw [hk es.length f hlt (by simp [ZA]) hf] at hL;cases hL
    | false=>rw [QF,if_neg (by rw [hf];simp)];exact ih
   ·exact ih
theorem Qk5 {L:Nat→Bool} {b:List (Nat×EB)} {s i:Nat} {e:EF} (hs:QU s e.hp=true):∀ {es:List EF},ZA i es=some e→L i=true→(∀ k f,i < k→ZA k es=some f→QU s f.hp=true→L k=false)→look EB.dead (XI L b es) s=look EB.dead e.hp s
 | [],h,_,_=>by cases h
 | f::es,h,hi,hk=>by
  unfold ZA at h;unfold XI;split at h
  ·next e1=>cases h;rw [← e1,if_pos hi,QF,if_pos hs]
  ·next hne =>
   have hlt:=ZY h
   have ih:=Qk5 (L:=L) (b:=b) hs h hi (fun k g h1 h2 h3=>hk k g h1 (by
    unfold ZA;rw [if_neg (by have:=ZY h2;omega)];exact h2) h3)
   split
   ·next hL =>
    cases hf:QU s f.hp with
    | true=>rw [hk es.length f hlt (by simp [ZA]) hf] at hL;cases hL
    | false=>rw [QF,if_neg (by rw [hf];simp)];exact ih
   ·exact ih
theorem QsX:∀ (es:List EF),Jl es.length es=es
 | []=>rfl
 | e::es=>by unfold Jl;rw [if_neg (by simp)]
theorem QaC {i:Nat} (b:List (Nat×EV)) (c:List (Nat×EB)):∀ (es:List EF),XH (fun k=>decide (k < i)) b es=XH (fun _=>true) b (Jl i es)∧XI (fun k=>decide (k < i)) c es=XI (fun _=>true) c (Jl i es)
 | []=>⟨rfl,rfl⟩
 | e::es=>by
  obtain ⟨h1,h2⟩:=QaC b c es;by_cases h:i≤es.length
  ·have e0:Jl i (e::es)=Jl i es:=by rw [Jl,if_pos h]
   rw [e0];refine ⟨?_,?_⟩
   ·rw [← h1];show (if decide (es.length < i)=true then _ else _)=_;rw [if_neg (by simp;omega)]
   ·rw [← h2];show (if decide (es.length < i)=true then _ else _)=_;rw [if_neg (by simp;omega)]
  ·have e1:Jl i (e::es)=e::es:=by unfold Jl;rw [if_neg h]
   rw [e1]
   have hall:∀ (l:List EF),l.length≤i→XH (fun k=>decide (k < i)) b l=XH (fun _=>true) b l∧XI (fun k=>decide (k < i)) c l=XI (fun _=>true) c l:=by
    intro l
    induction l with
    | nil=>intro _;exact ⟨rfl,rfl⟩
    | cons f l ih =>
     intro hl;simp only [List.length_cons] at hl;obtain ⟨k1,k2⟩:=ih (by omega);refine ⟨?_,?_⟩
     ·show (if decide (l.length < i)=true then _ else _)=(if true=true then _ else _);rw [if_pos (by simp;omega),if_pos rfl,k1]
     ·show (if decide (l.length < i)=true then _ else _)=(if true=true then _ else _);rw [if_pos (by simp;omega),if_pos rfl,k2]
   exact hall _ (by simp only [List.length_cons];omega)
theorem QaD (r:Nat):∀ (l m:List (Nat×EV)),Vb r (l++m)=(Vb r l || Vb r m)
 | [],m=>by simp [Vb]
 | p::l,m=>by simp only [List.cons_append,Vb,QaD r l m,Bool.or_assoc]
theorem QaE (r:Nat):∀ (l m:List (Nat×EB)),VQ r (l++m)=(VQ r l || VQ r m)
 | [],m=>by simp [VQ]
 | p::l,m=>by simp only [List.cons_append,VQ,QaE r l m,Bool.or_assoc]
theorem Qk6 {r:Nat} {L:Nat→Bool} {b:List (Nat×EV)}:∀ {es:List EF},Vb r b=false→(∀ k f,ZA k es=some f→L k=true→Vb r f.sl=false)→Vb r (XH L b es)=false
 | [],hb,_=>hb
 | e::es,hb,h=>by
  have ih:=Qk6 (L:=L) (es:=es) hb (fun k f hk hL=>h k f (by unfold ZA;rw [if_neg (by have:=ZY hk;omega)];exact hk) hL);unfold XH;split
  ·next hL=>rw [QaD,ih,h es.length e (by simp [ZA]) hL];rfl
  ·exact ih
theorem Qk7 {r:Nat} {L:Nat→Bool} {b:List (Nat×EB)}:∀ {es:List EF},VQ r b=false→(∀ k f,ZA k es=some f→L k=true→VQ r f.hp=false)→VQ r (XI L b es)=false
 | [],hb,_=>hb
 | e::es,hb,h=>by
  have ih:=Qk7 (L:=L) (es:=es) hb (fun k f hk hL=>h k f (by unfold ZA;rw [if_neg (by have:=ZY hk;omega)];exact hk) hL);unfold XI;split
  ·next hL=>rw [QaE,ih,h es.length e (by simp [ZA]) hL];rfl
  ·exact ih
theorem QaF {r:Nat} {L:Nat→Bool} {b:List (Nat×EV)}:∀ {es:List EF},Vb r (XH L b es)=false→Vb r b=false ∧ ∀ k f,ZA k es=some f→L k=true→Vb r f.sl=false
 | [],h=>⟨h,fun k f hk=>by cases hk⟩
 | e::es,h=>by
  unfold XH at h;split at h
  ·next hL =>
   rw [QaD,Qze] at h;obtain ⟨h1,h2⟩:=QaF h.2;refine ⟨h1,fun k f hk hLk=>?_⟩;unfold ZA at hk;split at hk
   ·cases hk;exact h.1
   ·exact h2 k f hk hLk
  ·next hL =>
   obtain ⟨h1,h2⟩:=QaF h;refine ⟨h1,fun k f hk hLk=>?_⟩;unfold ZA at hk;split at hk
   ·next e1=>subst e1;exact absurd hLk hL
   ·exact h2 k f hk hLk
theorem QaG {r:Nat} {L:Nat→Bool} {b:List (Nat×EB)}:∀ {es:List EF},VQ r (XI L b es)=false→VQ r b=false ∧ ∀ k f,ZA k es=some f→L k=true→VQ r f.hp=false
 | [],h=>⟨h,fun k f hk=>by cases hk⟩
 | e::es,h=>by
  unfold XI at h;split at h
  ·next hL =>
   rw [QaE,Qze] at h;obtain ⟨h1,h2⟩:=QaG h.2;refine ⟨h1,fun k f hk hLk=>?_⟩;unfold ZA at hk;split at hk
   ·cases hk;exact h.1
   ·exact h2 k f hk hLk
  ·next hL =>
   obtain ⟨h1,h2⟩:=QaG h;refine ⟨h1,fun k f hk hLk=>?_⟩;unfold ZA at hk;split at hk
   ·next e1=>subst e1;exact absurd hLk hL
   ·exact h2 k f hk hLk
end
end Go.Proofs.YtcebndkiagbddaaGreatDoor
