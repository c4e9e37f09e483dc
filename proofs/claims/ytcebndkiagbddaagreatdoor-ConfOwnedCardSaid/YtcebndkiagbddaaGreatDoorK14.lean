/- A part of the proof: contracts of functions and what they stand on. Written shorter and merged by a program (pack.py). -/
import Derived.Test.YtcebndkiagbddaaGreatDoorK13
set_option linter.unusedVariables false
set_option linter.unusedSimpArgs false
set_option maxRecDepth 100000
set_option maxHeartbeats 4000000
open Bool renaming and_eq_true -> Qxo, or_eq_true -> Qxt, or_eq_false_iff -> Qxz
open List renaming mem_cons_of_mem -> Qxp, mem_append_left -> Qxq, mem_append_right -> Qxr, mem_cons -> Qxv, append_nil -> Qxw
open Nat renaming testBit -> Qxs, blt -> Qxu, beq -> Qxx, testBit_or -> Qxy
namespace Go.Proofs.YtcebndkiagbddaaGreatDoor
section
open Go.RowKit
section
variable {P:Program} {E:Env} {kp:List Nat} {n:Nat} {ops:Array Oper} {tab:TT} {H:Hi} {st:ES} {Q:Exit->Act->World->Prop}
theorem Qkr {K:ES->Prop} {R:Option RS} (h:goR kp st.slots st.heap K R):∃ R',R=some R'/\(∀ p∈R'.hp,(ob_ st.heap p.1).alive=true\/st.free kp p.1=true)/\(∀ c∈R'.C,c)/\K (R'.app st):=by
 unfold goR at h;split at h
 ·next C rs rh =>
  let R':RS:=⟨C,rs,rh⟩
  cases hf:QnL st.heap st kp rh with
  | false=>rw [hf] at h;exact h.elim
  | true =>
   rw [hf] at h;obtain ⟨h1,h2⟩:=Vl h;rw [ZU,ZU] at h2;exact ⟨R',rfl,Qmg hf,h1,h2⟩
 ·exact h.elim
theorem XP {dst:Option Nat} (h:YF dst n=true):∀ x,dst=some x->Qxu x n=true:=by
 intro x hx;subst hx;exact h
theorem Qfc {o:Oper} {f:FuncId} {args:List Operand} (h:Qgp o=some (f,args)):∃ a T,o.op=.call { callee:=.value (.func f),args:=a,argTypes:=T }/\a.toList=args:=by
 unfold Qgp at h;split at h
 ·next c hc =>
  split at h
  ·next f' hf =>
   cases h;obtain ⟨callee,a,T⟩:=c;simp only at hf;subst hf;exact ⟨a,T,hc,rfl⟩
  ·cases h
 ·cases h
theorem Qh8 {vs:List (Nat×EV)} {o:Oper} {f:FuncId} {args:List Operand} {ce:Option (List EV)} (h:Qe9 vs o=some (f,args,ce)):(ce=none/\Qgp o=some (f,args))\/(ce=none/\Qmf vs o=some (f,args))\/∃ l,ce=some l/\Ql6 vs o=some (f,args,l):=by
 unfold Qe9 at h;split at h
 ·next f' a' hc=>cases h;exact .inl ⟨rfl,hc⟩
 ·split at h
  ·next f' a' hc=>cases h;exact .inr (.inl ⟨rfl,hc⟩)
  ·split at h
   ·next f' a' l hc=>cases h;exact .inr (.inr ⟨l,rfl,hc⟩)
   ·cases h
theorem Qh9 {vs:List (Nat×EV)} {o:Oper} {f:FuncId} {args:List Operand} (h:Qmf vs o=some (f,args)):∃ t a T j w,o.op=.call { callee:=.value (.tmp t),args:=a,argTypes:=T }/\o.guard=some (j,w)/\a.toList=args/\(Vn (look .any vs t)=.fn f []\/Vn (look .any vs t)=.v (.func (.func f) #[] #[])):=by
 unfold Qmf at h;split at h
 ·next t a T g ho hg =>
  obtain ⟨j,w⟩:=g;split at h
  ·next f' hl=>cases h;exact ⟨t,a,T,j,w,ho,hg,rfl,.inl hl⟩
  ·next f' hl=>cases h;exact ⟨t,a,T,j,w,ho,hg,rfl,.inr hl⟩
  ·cases h
 ·cases h
theorem Qd.callee {f:FuncId} {t:Nat} {d:Option Tmp} {a:Array Operand} {T:Array TypeId} {ty:TypeId} {ps:String} {af:Array Edge} {s s':AS} (hx:∀ (a:Act) (w:World) (φ:Qi) (Pub:Nat->Nat->Prop),(∀ x,RA w Pub φ (look .any s.slots x) (a.tmps.getD x undef))->a.eval (.tmp t)=.func (.func f) #[] #[])
  (k:Qd P E kp n ops ⟨d,.call { callee:=.value (.func f),args:=a,argTypes:=T },ty,ps,af,none⟩ s s'):Qd P E kp n ops ⟨d,.call { callee:=.value (.tmp t),args:=a,argTypes:=T },ty,ps,af,none⟩ s s':=by
 intro b w K Q hs hK;have h1:=k b w K Q hs hK;obtain ⟨φ,Pub,I,h0,hn,hsl⟩:=hs;have e:=hx b w φ Pub hsl;have e2:b.eval (.func f)=.func (.func f) #[] #[]:=rfl
 have e3:execOp b.eval ⟨d,.call { callee:=.value (.tmp t),args:=a,argTypes:=T },ty,ps,af,none⟩=execOp b.eval ⟨d,.call { callee:=.value (.func f),args:=a,argTypes:=T },ty,ps,af,none⟩:=by
  simp only [execOp,resolve,e,e2]
 unfold Oper.wp at h1 ⊢;rw [e3];exact h1
theorem Qia:∀ {xs:List Operand} {st:AS} {f:Operand->AV},(∀ x∈xs,Gv (st.ev x) (f x)) -> ∀ {ys:List AV},Vs (xs.map f) ys->Vs (xs.map st.ev) ys
 | [],_,_,_,_,h=>h
 | x::xs,st,f,hg,ys,h=>by
  rw [List.map_cons] at h ⊢;obtain ⟨y,zs,e,h1,h2⟩:=h;exact ⟨y,zs,e,(hg x (by simp)).trans h1,Qia (fun z hz=>hg z (Qxp _ hz)) h2⟩
theorem QtT {o:Oper} {d m:Nat} {rest:List Oper} (hP:tab.ok P) (h:Qh3 tab st.slots o=some (d,m)) (hd:Qxu d n=true) (k:∀ g:Bool,(g=true->m=0)->AO P E kp n ops Q rest (st.as.put d (.p (VF g)))):AO P E kp n ops Q (o::rest) st.as:=by
 obtain ⟨dst,op,ty,ps,af,gd⟩:=o;unfold Qh3 at h;simp only at h;split at h
 ·next T x y T' =>
  split at h
  ·next d' =>
   split at h
   ·next e s b z _ _ _ _ hti =>
    obtain ⟨_,hT,_⟩:=(TT.find_ok hP hti).sl e s b z rfl;split at h
    ·next hy =>
     have gy:Gv (st.as.ev y) (.p (.v (.slice none 0 0))):=by
      rw [XJ];show Gv (Ql st.slots y).av _;rw [hy];exact Gv.r
     have gx:Gv (st.as.ev x) (Ql st.slots x).av:=by rw [XJ];exact Gv.r
     split at h
     ·next l hx=>cases h;rw [hx] at gx;exact AO.eqNil (m:=l.length) gx gy hT hd k
     ·next n' sz f hx=>cases h;rw [hx] at gx;exact AO.eqNil (m:=m) (cells:=lzC m sz f) (by have h3:=gx;unfold EV.av EV.pv at h3;exact h3) gy hT hd k
     ·next c n' hx=>cases h;rw [hx] at gx;exact AO.eqNil gx gy hT hd k
     ·cases h
    ·cases h
   ·cases h
  ·cases h
 ·cases h
theorem Qqe {vs:List (Nat×EV)} {o:Oper} {d m:Nat} (h:Qh3 tab vs o=some (d,m)):o.dst=some d:=by
 obtain ⟨dst,op,ty,ps,af,gd⟩:=o;unfold Qh3 at h;simp only at h;split at h
 ·split at h
  ·split at h
   ·split at h
    ·split at h
     ·cases h;rfl
     ·cases h;rfl
     ·cases h;rfl
     ·cases h
    ·cases h
   ·cases h
  ·cases h
 ·cases h
theorem Qqf {q:Operand} {vs:List (Nat×EV)} {bs:List (Nat×EB)} {a:Array Operand} {T:Array TypeId} {d j:Nat} {want c:Bool} {ty:TypeId} {ps:String} {af:Array Edge} {f:FuncId} {a5s:List EV} {res:EV} {C:List Prop} (S:Sub vs bs st)
  (hq:q=.func f\/∃ t,q=.tmp t/\(Vn (look .any vs t)=.fn f []\/Vn (look .any vs t)=.v (.func (.func f) #[] #[])))
  (hv:∀ s∈QK (q::a.toList),look EV.any vs s=look EV.any st.slots s) (hg:ZG ops vs j want=some c) (hds:Qxu d n=true)
  (hfit:JD [] (Qgj (Wb (pkV vs (QK a.toList))) a.toList) a5s=some (C,[])) (hch:(res.av.inH [] && Vf [] (avL a5s) && res.av.inD [])=true)
  (h1:c=true->Cf P f [] a5s [] res) (h2:∀ x∈Qcm (c=true) (Wc (pkV vs (QK (Op.call { callee:=.value q,args:=a,argTypes:=T }).operands.toList))++C),x) :
  Qd P E kp n ops ⟨some d,.call { callee:=.value q,args:=a,argTypes:=T },ty,ps,af,some (j,want)⟩ st.as (st.as.put d (EV.cnd c res).av):=by
 have eo:(Op.call { callee:=.value q,args:=a,argTypes:=T }).operands.toList=q::a.toList:=by simp [Op.operands,Call.operands]
 rw [eo,QbB hv] at h2
 have hva:∀ s∈QK a.toList,look EV.any vs s=look EV.any st.slots s:=fun s hs=>hv s (by
  cases q with
  | tmp t=>exact Qxp _ hs
  | _=>exact hs)
 rw [QbB hva] at hfit
 have hsc:∀ x,x∈Wc (pkV st.slots (QK a.toList))->x∈Wc (pkV st.slots (QK (q::a.toList))):=fun x hx=>by
  cases q with
  | tmp t =>
   show x∈Wc ((t,look .any st.slots t)::pkV st.slots (QK a.toList));simp only [Wc];split
   ·exact Qxp _ hx
   ·exact hx
  | _=>exact hx
 simp only [Qxo] at hch;refine XO (x:=res) (JU S hg) hds fun hc=>?_;have hev:=h1 hc;have hA:=Vm hc h2;have sgv:=QdL (st:=st) (l:=QK a.toList) (fun c hc=>hA c (Qxq _ (hsc c hc)));obtain ⟨_,_,a3⟩:=Vk a5s hfit (fun c hc=>hA c (Qxr _ hc));have a4:=a3 [] (Ext.refl _);have sgid:∀ x:AV,x.inD []=true->x.sg []=x:=Qkp
 have hargs:Vs (a.toList.map st.as.ev) (sgL [] (avL a5s)):=by
  rw [Ql2,W2,List.map_map] at a4;refine Qia (fun x hx=>?_) a4
  cases x with
  | tmp t =>
   have g1:=(sgv t).1;show Gv (look AV.any st.as.slots t) _
   have e:look EV.any (Wb (pkV st.slots (QK a.toList))++st.slots) t=look EV.any (Wb (pkV st.slots (QK a.toList))) t:=by
    rw [Qv,if_pos]
    have hm:t∈QK a.toList:=by
     have:∀ (l:List Operand),Operand.tmp t∈l->t∈QK l:=by
      intro l
      induction l with
      | nil=>intro h;cases h
      | cons z l ih =>
       intro h;rcases Qxv.1 h with e | e
       ·subst e;simp [QK]
       ·cases z <;> simp [QK,ih e]
     exact this _ hx
    have:∀ (l:List Nat),t∈l->QD t (Wb (pkV st.slots l))=true:=by
     intro l
     induction l with
     | nil=>intro h;cases h
     | cons z l ih =>
      intro h;rcases Qxv.1 h with e | e
      ·subst e;simp [pkV,Wb,QD]
      ·simp [pkV,Wb,QD,ih e]
    exact this _ hm
   rw [e] at g1;exact g1
  | const c=>rw [XJ];exact Gv.r
  | func f=>rw [XJ];exact Gv.r
  | global g=>rw [XJ];exact Gv.r
 have k:=QsV (P:=P) (E:=E) (kp:=kp) (n:=n) (ops:=ops) (st:=st.as) (d:=some d) (ty:=ty) (ps:=ps) (af:=af) (argTypes:=T) (hout:=[]) [] hev.1 hev.2 hargs (by simp only [Qxo];exact ⟨⟨⟨⟨rfl,hch.1.2⟩,rfl⟩,hch.2⟩,rfl⟩) (by rw [Qxo];exact ⟨rfl,hch.1.1⟩) rfl (XP hds);have ea:a.toList.toArray=a:=by simp
 rw [ea] at k
 have lift:∀ s':AS,Qd P E kp n ops ⟨some d,.call { callee:=.value (.func f),args:=a,argTypes:=T },ty,ps,af,none⟩ st.as s'->Qd P E kp n ops ⟨some d,.call { callee:=.value q,args:=a,argTypes:=T },ty,ps,af,none⟩ st.as s':=fun s' k=>by
  rcases hq with rfl | ⟨t,rfl,hl⟩
  ·exact k
  ·refine Qd.callee (fun b w φ Pub hs=>?_) k;have hl2:look EV.any vs t=look EV.any st.slots t:=hv t (by simp [QK]);rw [hl2] at hl;have h3:=hs t;have e0:look AV.any st.as.slots t=(look EV.any st.slots t).av:=Q8 _ _;rw [e0] at h3
   have h4:RA w Pub φ (Vn (look EV.any st.slots t)).av (b.tmps.getD t undef):=by
    cases hx:look EV.any st.slots t with
    | cnd g y =>
     rw [hx] at h3
     have hgt:g=true:=hA (g=true) (Qxq _ (by
      show (g=true)∈Wc ((t,look .any st.slots t)::pkV st.slots (QK a.toList))
      rw [hx];simp [Wc]))
     unfold EV.av RA at h3;exact h3.1 hgt
    | _=>rw [hx] at h3;exact h3
   show b.tmps.getD t undef=_;rcases hl with hl | hl
   ·rw [hl] at h4;unfold EV.av RA RP at h4;obtain ⟨us,e1,e2⟩:=h4
    have e3:us=[]:=by
     have:RPs w Pub (pvL []) us:=e2;unfold pvL RPs at this;exact this
    rw [e1,e3]
   ·rw [hl] at h4;unfold EV.av RA RP at h4;exact h4
 refine (lift _ k).cast ?_;show AS.mk ((d,res.av.sg [])::st.as.slots) _=AS.mk ((d,res.av)::st.as.slots) _;rw [sgid _ hch.2];rfl
theorem Qb4 {bo:List Nat} {vs:List (Nat×EV)} {bs:List (Nat×EB)} {dst:Option Nat} {args:List Operand} {ce:List EV} {hin a5s hout res} {R:RS} (h:Qb3 bo vs bs dst args ce hin a5s hout res=some R) :
  Qb1 vs bs dst args ce hin a5s hout res=some R\/(hin=[]/\hout=[]/\∃ d C,dst=some d/\Qp2 vs bs args ce a5s res=some C/\R=⟨C,[(d,res)],[]⟩):=by
 unfold Qb3 at h;split at h
 ·next d =>
  cases hm:QO d bo with
  | false=>rw [hm] at h;exact .inl h
  | true =>
   rw [hm] at h;simp only [cond_true] at h;split at h
   ·split at h
    ·split at h
     ·next C hb=>cases h;exact .inr ⟨rfl,rfl,d,C,rfl,hb,rfl⟩
     ·cases h
    ·exact .inl h
   ·cases h
 ·exact .inl h
theorem Qib {bo:List Nat} {f:FuncId} {dst:Option Nat} {args:Array Operand} {argTypes:Array TypeId} {hin hout:List (Nat×EB)} {a5s:List EV} {res:EV} {R:RS} {vs:List (Nat×EV)} {bs:List (Nat×EB)} {ty:TypeId} {ps:String} {af:Array Edge} (S:Sub vs bs st) (hev:Cf P f hin a5s hout res)
  (h:Qb3 bo vs bs dst args.toList [] hin a5s hout res=some R) (hC:∀ c∈R.C,c) (hf:∀ p∈R.hp,(ob_ bs p.1).alive=true\/st.free kp p.1=true) (hd:∀ x,dst=some x->Qxu x n=true) :
  Qd P E kp n ops ⟨dst,.call { callee:=.value (.func f),args:=args,argTypes },ty,ps,af,none⟩ st.as (R.app st).as:=by
 rcases Qb4 h with h | ⟨rfl,rfl,d,C,rfl,hb,rfl⟩
 ·exact Qp1 S hev.1 hev.2 h hC hf hd
 ·exact QbA S hev.1 hev.2 (fun a w φ Pub hs=>⟨[],rfl,by unfold avL RAs;rfl⟩) hb hC (hd d rfl)
theorem Qfd {bo:List Nat} {t:Nat} {f:FuncId} {dst:Option Nat} {args:Array Operand} {ce:List EV} {argTypes:Array TypeId} {hin hout:List (Nat×EB)} {a5s:List EV} {res:EV} {R:RS} {vs:List (Nat×EV)} {bs:List (Nat×EB)} {ty:TypeId} {ps:String} {af:Array Edge} (S:Sub vs bs st) (hev:Cf P f hin a5s hout res) (hl:look .any vs t=.fn f ce\/(look .any vs t=.v (.func (.func f) #[] #[])/\ce=[])) (hs:shL ce=true)
  (h:Qb3 bo vs bs dst args.toList ce hin a5s hout res=some R) (hC:∀ c∈R.C,c) (hf:∀ p∈R.hp,(ob_ bs p.1).alive=true\/st.free kp p.1=true) (hd:∀ x,dst=some x->Qxu x n=true) :
  Qd P E kp n ops ⟨dst,.call { callee:=.value (.tmp t),args:=args,argTypes },ty,ps,af,none⟩ st.as (R.app st).as:=by
 rcases Qb4 h with h | ⟨rfl,rfl,d,C,rfl,hb,rfl⟩
 ·exact QnJ S hev.1 hev.2 hl hs h hC hf hd
 ·exact QbA S hev.1 hev.2 (fun a w φ Pub hr=>QhY S hl hs hr) hb hC (hd d rfl)
theorem Jl {bo:Bool} {q:Operand} {vs:List (Nat×EV)} {bs:List (Nat×EB)} {a:Array Operand} {T:Array TypeId} {d j:Nat} {want c:Bool} {ty:TypeId} {ps:String} {af:Array Edge} {f:FuncId} {a5s:List EV} {res:EV} {C:List Prop} (S:Sub vs bs st)
  (hq:q=.func f\/∃ t,q=.tmp t/\(Vn (look .any vs t)=.fn f []\/Vn (look .any vs t)=.v (.func (.func f) #[] #[])))
  (hv:∀ s∈QK (q::a.toList),look EV.any vs s=look EV.any st.slots s) (hg:ZG ops vs j want=some c) (hds:Qxu d n=true)
  (hfit:Qfa bo (Wb (pkV vs (QK a.toList))) bs a.toList a5s res=some C)
  (h1:c=true->Cf P f [] a5s [] res) (h2:∀ x∈Qcm (c=true) (Wc (pkV vs (QK (Op.call { callee:=.value q,args:=a,argTypes:=T }).operands.toList))++C),x) :
  Qd P E kp n ops ⟨some d,.call { callee:=.value q,args:=a,argTypes:=T },ty,ps,af,some (j,want)⟩ st.as (st.as.put d (EV.cnd c res).av):=by
 unfold Qfa at hfit
 cases bo with
 | false =>
  simp only [cond_false] at hfit;split at hfit
  ·next C' hf =>
   obtain ⟨hch,hfit⟩:=QA hfit;cases hfit;exact Qqf S hq hv hg hds hf hch h1 h2
  ·cases hfit
 | true =>
  simp only [cond_true] at hfit;have eo:(Op.call { callee:=.value q,args:=a,argTypes:=T }).operands.toList=q::a.toList:=by simp [Op.operands,Call.operands]
  rw [eo,QbB hv] at h2
  have hva:∀ s∈QK a.toList,look EV.any vs s=look EV.any st.slots s:=fun s hs=>hv s (by
   cases q with
   | tmp t=>exact Qxp _ hs
   | _=>exact hs)
  rw [QbB hva] at hfit
  have hsc:∀ x,x∈Wc (pkV st.slots (QK a.toList))->x∈Wc (pkV st.slots (QK (q::a.toList))):=fun x hx=>by
   cases q with
   | tmp t =>
    show x∈Wc ((t,look .any st.slots t)::pkV st.slots (QK a.toList));simp only [Wc];split
    ·exact Qxp _ hx
    ·exact hx
   | _=>exact hx
  refine XO (x:=res) (JU S hg) hds fun hc=>?_;have hev:=h1 hc;have hA:=Vm hc h2;have sgv:=QdL (st:=st) (l:=QK a.toList) (fun c hc=>hA c (Qxq _ (hsc c hc)));have k:=QbA (P:=P) (E:=E) (kp:=kp) (n:=n) (ops:=ops) (ty:=ty) (ps:=ps) (af:=af) (argTypes:=T) (dst:=d) (args:=a) (x:=.func f) (Qfb (st:=st) (l:=QK a.toList) S.b) hev.1 hev.2 (fun b w φ Pub hs=>⟨[],rfl,by unfold avL RAs;rfl⟩) hfit (fun c hc=>hA c (Qxr _ hc)) hds
  have k2:Qd P E kp n ops ⟨some d,.call { callee:=.value (.func f),args:=a,argTypes:=T },ty,ps,af,none⟩ st.as (st.as.put d res.av):=by
   refine (k.pre (st:=st.as) ?_).wk ?_
   ·refine Qh4 (sl:=st.as.slots) fun t=>?_;have:=(sgv t).1;rw [Q8];exact this
   ·refine Qh4 (h:=st.as.heap) (sl:=(d,res.av)::avs (Wb (pkV st.slots (QK a.toList))++st.slots)) fun t=>?_;have:=(sgv t).2;show Gv (look AV.any ((d,res.av)::avs _) t) (look AV.any ((d,res.av)::st.as.slots) t);rw [Qb,Qb];split
    ·exact Gv.r
    ·rw [Q8];exact this
  rcases hq with rfl | ⟨t,rfl,hl⟩
  ·exact k2
  ·refine Qd.callee (fun b w φ Pub hs=>?_) k2;have hl2:look EV.any vs t=look EV.any st.slots t:=hv t (by simp [QK]);rw [hl2] at hl;have h3:=hs t;have e0:look AV.any st.as.slots t=(look EV.any st.slots t).av:=Q8 _ _;rw [e0] at h3
   have h4:RA w Pub φ (Vn (look EV.any st.slots t)).av (b.tmps.getD t undef):=by
    cases hx:look EV.any st.slots t with
    | cnd g y =>
     rw [hx] at h3
     have hgt:g=true:=hA (g=true) (Qxq _ (by
      show (g=true)∈Wc ((t,look .any st.slots t)::pkV st.slots (QK a.toList))
      rw [hx];simp [Wc]))
     unfold EV.av RA at h3;exact h3.1 hgt
    | _=>rw [hx] at h3;exact h3
   show b.tmps.getD t undef=_;rcases hl with hl | hl
   ·rw [hl] at h4;unfold EV.av RA RP at h4;obtain ⟨us,e1,e2⟩:=h4
    have e3:us=[]:=by
     have:RPs w Pub (pvL []) us:=e2;unfold pvL RPs at this;exact this
    rw [e1,e3]
   ·rw [hl] at h4;unfold EV.av RA RP at h4;exact h4
theorem Qqg {o:Oper} {d r q:Nat} {s:List Nat} {es:Q7} {rest:List Oper} (h:Qme st.slots st.heap o=some (d,r,q,es.length,s,es.length,es)) (hd:YF o.dst n=true)
  (h1:∀ i:Nat,i < es.length->¬ i∈s->AO P E kp n ops Q rest (ES.as ⟨(d,.tup [.b true,.any,.any])::st.slots,(r,.it q es.length (i::s) es.length)::st.heap⟩)) (h2:(∀ i:Nat,i < es.length->i∈s)->AO P E kp n ops Q rest (ES.as ⟨(d,.tup [.b false])::st.slots,st.heap⟩)) :
  AO P E kp n ops Q (o::rest) st.as:=by
 unfold Qme at h;cases h
theorem Yl (hP:tab.ok P):∀ (os:List Oper) (st:ES) (K:ES->Prop),QaF P kp n tab H ops os st K->(∀ st',K st'->To E kp n Q .normal st'.as)->AO P E kp n ops Q os st.as
 | [],st,K,h,hK=>AO.nil (hK st h)
 | o::os,⟨sl,hp⟩,K,h,hK=>by
  unfold QaF at h
  let st:ES:=⟨sl,hp⟩
  cases hds:YF o.dst n with
  | false=>rw [hds] at h;exact h.elim
  | true =>
   rw [hds] at h;simp only [cond_true] at h
   have gen:goR kp sl hp (fun st'=>QaF P kp n tab H ops os st' K) (QaE tab H ops sl hp o)->AO P E kp n ops Q (o::os) st.as:=fun h=>by
    obtain ⟨R,h1,h2,h3,h4⟩:=Qkr (st:=st) h;exact AO.step (Qh7 (Sub.full st) (fun _ _=>rfl) hP h1 h3 h2 hds) (Yl hP os _ K h4 hK)
   split at h
   ·next f args ce hce =>
    rcases Qh8 hce with ⟨rfl,hc⟩ | ⟨rfl,hc⟩ | ⟨l,rfl,hc⟩
    ·obtain ⟨a,T,ho,ha⟩:=Qfc hc;obtain ⟨dst,op,ty,ps,af,gd⟩:=o;simp only at ho h hds;subst ho ha;split at h
     ·obtain ⟨hin,a5s,hout,res,hev,h⟩:=h;obtain ⟨R,h1,h2,h3,h4⟩:=Qkr (st:=st) h;exact AO.step (Qib (Sub.full st) hev h1 h3 h2 (XP hds)) (Yl hP os _ K h4 hK)
     ·next j want =>
     split at h
     ·next d c _ hg =>
      obtain ⟨a5s,res,h⟩:=h;split at h
      ·next C hfit =>
       obtain ⟨h1,h2⟩:=h;obtain ⟨h3,h2⟩:=Vl h2;refine AO.step (Jl (q:=.func f) (Sub.full st) (.inl rfl) (fun _ _=>rfl) hg hds hfit h1 h3) (Yl hP os _ K h2 hK)
      ·exact h.elim
     ·exact h.elim
    ·obtain ⟨t,a,T,j',w',ho,hgd,ha,hq⟩:=Qh9 hc;obtain ⟨dst,op,ty,ps,af,gd⟩:=o;simp only at ho h hds hgd;subst ho ha hgd;split at h
     ·next hgn=>cases hgn
     ·next j want hgn =>
     cases hgn;split at h
     ·next d c _ hg =>
      obtain ⟨a5s,res,h⟩:=h;split at h
      ·next C hfit =>
       obtain ⟨h1,h2⟩:=h;obtain ⟨h3,h2⟩:=Vl h2;refine AO.step (Jl (q:=.tmp t) (Sub.full st) (.inr ⟨t,rfl,hq⟩) (fun _ _=>rfl) hg hds hfit h1 h3) (Yl hP os _ K h2 hK)
      ·exact h.elim
     ·exact h.elim
    ·obtain ⟨t,a,T,ho,ha,hl,hs⟩:=QhX hc;obtain ⟨dst,op,ty,ps,af,gd⟩:=o;simp only at ho h hds;subst ho ha;split at h
     ·obtain ⟨hin,a5s,hout,res,hev,h⟩:=h;obtain ⟨R,h1,h2,h3,h4⟩:=Qkr (st:=st) h;exact AO.step (Qfd (Sub.full st) hev hl hs h1 h3 h2 (XP hds)) (Yl hP os _ K h4 hK)
     ·exact h.elim
   ·split at h
    ·next d r q since s last es hnx =>
     obtain ⟨⟨e1,e2⟩,h1,h2⟩:=h;subst e1 e2;exact Qqg hnx hds (fun i hi hs=>Yl hP os _ K (h1 i hi hs) hK) (fun ha=>Yl hP os _ K (h2 ha) hK)
    ·split at h
     ·next d m hn =>
      have hd:Qxu d n=true:=by
       rw [Qqe hn] at hds;exact hds
      exact QtT hP hn hd fun g hg=>Yl hP os ⟨(d,.b g)::st.slots,st.heap⟩ K (h g hg) hK
     ·split at h
      ·next d hdd =>
       cases hm:QO d H.man with
       | true =>
        rw [hm] at h;obtain ⟨st',h1,h2⟩:=h;exact AO.step (h1 E) (Yl hP os st' K h2 hK)
       | false=>rw [hm] at h;exact gen h
      ·exact gen h
end
def WkG (kp:List Nat) (st st':ES):Prop:=match wkF kp st st' with
 | some C=>obA C True
 | none=>False
section
variable (P:Program) (kp:List Nat) (n:Nat) (tab:TT) (H:Hi)
def QtU (D:Nat->Array Oper->ES->(ES->Prop)->Prop) (id:Nat) (ops:Array Oper) (st:ES) (K:ES->Prop):Bool->Prop
 | false=>QaF P kp n tab H ops ops.toList st K
 | true=>D id ops st K
def wpC (D:Nat->Array Oper->ES->(ES->Prop)->Prop):Code->(Exit->ES->Prop)->ES->Prop
 | .skip,K,st=>K .normal st
 | .region id ops draw,K,st=>bif QO id H.cu then (∃ st':ES,WkG kp st st'/\QtU P kp n tab H D id ops st' (K .normal) draw) else QtU P kp n tab H D id ops st (K .normal) draw
 | .seq a b,K,st=>wpC D a (fun e st'=>match e with | .normal=>wpC D b K st' | e=>K e st') st
 | .cond c a b,K,st=>match Ql st.slots c with
  | .v (.bool g)=>(g=true->wpC D a K st)/\(g=false->wpC D b K st)
  | _=>False
 | .block id c,K,st=>wpC D c (fun e st'=>match e with | .exit i=>bif Qxx i id then K .normal st' else K (.exit i) st' | e=>K e st') st
 | .loop c,K,st=>∃ (α:Type) (I:α->ES) (ok:α->Prop) (μ:α->Nat) (x0:α),ok x0/\WkG kp st (I x0) /\
   ∀ x,ok x->wpC D c (fun e st'=>match e with | .normal=>∃ y,ok y/\μ y < μ x/\WkG kp st' (I y) | e=>K e st') (I x)
 | .exit id,K,st=>K (.exit id) st
 | .ret,K,st=>K .ret st
 | _,_,_=>False
end
section
variable {P:Program} {E:Env} {kp:List Nat} {n:Nat} {tab:TT} {H:Hi}
theorem Qks {st st':ES} (h:WkG kp st st'):Wk E kp n st.as st'.as:=by
 unfold WkG at h;split at h
 ·next C hc=>exact Qwa hc (Vl h).1
 ·exact h.elim
def DOk (P:Program) (kp:List Nat) (n:Nat) (D:Nat->Array Oper->ES->(ES->Prop)->Prop):Prop :=
 ∀ (E:Env) (id:Nat) (ops:Array Oper) (st:ES) (K:ES->Prop) (Q:Exit->Act->World->Prop),D id ops st K->(∀ st',K st'->To E kp n Q .normal st'.as)->AW P E kp n (.region id ops true) Q st.as
theorem JV {D:Nat->Array Oper->ES->(ES->Prop)->Prop} (hP:tab.ok P) (hD:DOk P kp n D):∀ (c:Code) (K:Exit->ES->Prop) (Q:Exit->Act->World->Prop) (st:ES),wpC P kp n tab H D c K st->(∀ e st',K e st'->To E kp n Q e st'.as)->AW P E kp n c Q st.as
 | .skip,K,Q,st,h,hK=>AW.skip (hK _ _ h)
 | .region id ops draw,K,Q,st,h,hK=>by
  have main:∀ st:ES,QtU P kp n tab H D id ops st (K .normal) draw->AW P E kp n (.region id ops draw) Q st.as:=fun st h=>by
   cases draw with
   | false =>
    have e:ops=ops.toList.toArray:=by simp
    have k:=Yl (E:=E) (Q:=Q) hP ops.toList st _ h (fun st' h'=>hK _ _ h');have k2:AO P E kp n ops.toList.toArray Q ops.toList st.as:=by rw [<- e];exact k
    rw [e];exact AW.region k2
   | true=>exact hD E id ops st _ Q h (fun st' h'=>hK _ _ h')
  unfold wpC at h
  cases hc:QO id H.cu with
  | true =>
   rw [hc] at h;obtain ⟨st',hw,h⟩:=h;exact AW.wk (Qks hw) (main st' h)
  | false=>rw [hc] at h;exact main st h
 | .seq a b,K,Q,st,h,hK=>by
  unfold wpC at h;refine AW.seq (JV hP hD a _ _ st h fun e st' h'=>?_)
  cases e with
  | normal=>exact To.seq (JV hP hD b K Q st' h' hK)
  | _=>exact hK _ _ h'
 | .cond c a b,K,Q,st,h,hK=>by
  unfold wpC at h;split at h
  ·next g hc =>
   refine AW.cond (g:=g) (by rw [XJ];show Gv (Ql st.slots c).av _;rw [hc];exact Gv.r) (fun hg=>JV hP hD a K Q st (h.1 hg) hK) (fun hg=>JV hP hD b K Q st (h.2 hg) hK)
  ·exact h.elim
 | .block id c,K,Q,st,h,hK=>by
  unfold wpC at h;refine AW.block (JV hP hD c _ _ st h fun e st' h'=>?_)
  cases e with
  | exit i =>
   simp only at h'
   cases hb:Qxx i id with
   | true =>
    rw [hb] at h';have e:=Qc hb;subst e;exact To.block_exit (hK _ _ h')
   | false =>
    rw [hb] at h';exact To.block_exit_ne (fun e=>by subst e;simp at hb) (hK _ _ h')
  | _=>exact hK _ _ h'
 | .loop c,K,Q,st,h,hK=>by
  unfold wpC at h;obtain ⟨α,I,ok,μ,x0,h0,hst,hround⟩:=h;refine AW.loop (fun x=>(I x).as) ok μ x0 h0 (Qks hst) fun x hx K' hK'=>?_;refine JV hP hD c _ _ (I x) (hround x hx) fun e st' h'=>?_
  cases e with
  | normal =>
   obtain ⟨y,hy,hlt,hw⟩:=h';exact To.then_normal (To.wk (Qks hw) (hK' y hy hlt))
  | _=>exact hK _ _ h'
 | .exit id,K,Q,st,h,hK=>AW.exit (hK _ _ h)
 | .ret,K,Q,st,h,hK=>AW.ret (hK _ _ h)
 | .rangeFunc _ _ _ _,_,_,_,h,_=>by unfold wpC at h;exact h.elim
 | .scope _,_,_,_,h,_=>by unfold wpC at h;exact h.elim
 | .label _,_,_,_,h,_=>by unfold wpC at h;exact h.elim
 | .goto _,_,_,_,h,_=>by unfold wpC at h;exact h.elim
 | .refuse _,_,_,_,h,_=>by unfold wpC at h;exact h.elim
end
end
section
open Go.RowKit
def QeN (tab:TT) (st:ES):List ResultVar->Option (List EV)
 | []=>some []
 | .tmp t::l=>match QeN tab st l with
  | some m=>some (look .any st.slots t::m)
  | none=>none
 | .cell c T::l=>match look .any st.slots c with
  | .own r off=>match ob_ st.heap r with
   | .bz n f _=>match tab.find T with
    | some ti=>bif ti.agg && Qxx off 0 && Qxx ti.sz n then (match QeN tab st l with
     | some m=>some (.az n f::m)
     | none=>none) else none
    | none=>none
   | .box cells _=>match tab.find T with
    | some ti=>match Qbt ti true off cells with
     | some (_,x)=>match QeN tab st l with
      | some m=>some (x::m)
      | none=>none
     | none=>none
    | none=>none
   | _=>none
  | _=>none
def QnN:List EV->EV
 | [x]=>x
 | l=>.tup l
def idK (hout:List (Nat×EB)):List Nat->List (Nat×Nat)
 | []=>[]
 | q::l=>bif QD q hout then (q,q)::idK hout l else idK hout l
def Qic (tab:TT) (kp:List Nat) (rs:List ResultVar) (hout:List (Nat×EB)) (res:EV) (st:ES):Prop :=
 match QeN tab st rs with
 | none=>False
 | some l=>match cvE st.heap (QnN l) res with
  | none=>False
  | some (C0,z,F)=>match fit (idK hout kp) z res with
   | none=>False
   | some (C1,τ)=>match QeM (F++st.heap) τ hout with
    | none=>False
    | some (C2,σ)=>bif Qkn kp σ && W3 (idK hout kp) && ndB st.heap F then obA (C0++(C1++C2)) True else False
section
variable {P:Program} {E:Env} {kp:List Nat} {n:Nat} {tab:TT} {H:Hi}
theorem QtV {st:ES} (hP:tab.ok P) {c r off:Nat} {T t:TypeId} {cells:List EV} {ti:TI} {C:List Prop} {x:EV} (hc:look .any st.slots c=.own r off) (hb:ob_ st.heap r=.box cells t) (hti:tab.find T=some ti) (hg:Qbt ti true off cells=some (C,x)) :
  Qhj P st.as (.cell c T) x.av:=by
 have hT:=TT.find_ok hP hti
 have hs:Gv (look AV.any st.as.slots c) (.own r off):=by
  have e:look AV.any st.as.slots c=(look EV.any st.slots c).av:=Q8 _ _;rw [e,hc];exact Gv.r
 have hl:st.as.ob r=.box (avL cells) t:=by rw [Qpt];show (ob_ st.heap r).ob=_;rw [hb];rfl
 unfold Qbt at hg
 cases ha:ti.agg with
 | true =>
  rw [ha] at hg;simp only [cond_true] at hg;split at hg
  ·next l hq =>
   simp only [Bool.true_or,cond_true] at hg;cases hg;obtain ⟨h1,h2⟩:=Qbw hq;rw [VT] at h1;exact Qhj.boxN (l:=avL l) hs (by rw [hT.agg,ha]) hT.sz hl (by rw [h1,Qdq,Qdp]) (by rw [Qx];exact h2) Gv.r
  ·cases hg
 | false =>
  rw [ha] at hg;simp only [cond_false] at hg;split at hg
  ·next z hq =>
   simp only [Bool.true_or,cond_true] at hg;cases hg;rw [Xh] at hq;exact Qhj.box1 hs (by rw [hT.agg,ha]) hl (by rw [Qau,hq];rfl) Gv.r
  ·cases hg
theorem Qmi {st:ES} (hP:tab.ok P) {φ:Qi} {Pub:Nat->Nat->Prop} {w:World} {a:Act} (I:Inv E kp φ Pub st.as.heap w) (hs:∀ s,RA w Pub φ (look .any st.as.slots s) (a.tmps.getD s undef)) :
  ∀ {rs:List ResultVar} {l:List EV},QeN tab st rs=some l->∃ vs:List Value,(rs.mapM (QeT a.tmps)).run P w=.ok vs w/\RAs w Pub φ (avL l) vs
 | [],l,h=>by
  unfold QeN at h;cases h;exact ⟨[],by simp,by unfold avL RAs;rfl⟩
 | rv::rs,l,h=>by
  have one:∀ {x:EV} {m:List EV},Qhj P st.as rv x.av->QeN tab st rs=some m->∃ vs:List Value,((rv::rs).mapM (QeT a.tmps)).run P w=.ok vs w/\RAs w Pub φ (avL (x::m)) vs:=fun {x m} hr hm=>by
   obtain ⟨u,hu,hR⟩:=hr E kp a w φ Pub I hs;obtain ⟨vs,h1,h2⟩:=Qmi hP I hs hm;refine ⟨u::vs,?_,by unfold avL RAs;exact ⟨u,vs,rfl,hR,h2⟩⟩;simp [List.mapM_cons,hu,h1]
  cases rv with
  | tmp t =>
   simp only [QeN] at h;split at h
   ·next m hm =>
    cases h
    exact one (Qhj.tmp (by
     have e:look AV.any st.as.slots t=(look EV.any st.slots t).av:=Q8 _ _
     rw [e];exact Gv.r)) hm
   ·cases h
  | cell c T =>
   simp only [QeN] at h;split at h
   ·next r off hc =>
    split at h
    ·next m' f t hb =>
     split at h
     ·next ti hti =>
      obtain ⟨hg,h⟩:=QA h;split at h
      ·next m hm =>
       cases h;simp only [Qxo] at hg;have e1:=Qc hg.1.2;have e2:=Qc hg.2;subst e1;have hT:=TT.find_ok hP hti
       have hs:Gv (look AV.any st.as.slots c) (.own r 0):=by
        have e:look AV.any st.as.slots c=(look EV.any st.slots c).av:=Q8 _ _;rw [e,hc];exact Gv.r
       have hl:st.as.ob r=.box ((azC m' f).map AV.p) t:=by rw [Qpt];show (ob_ st.heap r).ob=_;rw [hb];rfl
       exact one (x:=.az m' f) (Qhj.boxN (l:=(azC m' f).map AV.p) hs (by rw [hT.agg,hg.1.1]) hT.sz hl (by rw [e2,List.drop_zero,List.take_of_length_le (by simp)]) (by simp [e2]) Gv.agg) hm
      ·cases h
     ·cases h
    ·next cells t hb =>
     split at h
     ·next ti hti =>
      split at h
      ·next C x hg =>
       split at h
       ·next m hm=>cases h;exact one (QtV hP hc hb hti hg) hm
       ·cases h
      ·cases h
     ·cases h
    ·cases h
   ·cases h
theorem Qmj {st:ES} (hP:tab.ok P) {fn:Func} {rs:List ResultVar} {hout:List (Nat×EB)} {res:EV} (hr:fn.results=rs.toArray) (h:Qic tab kp rs hout res st):To E kp n (bodyPost P fn (QfS E kp (obs hout) res.av)) .ret st.as:=by
 rintro a w ⟨φ,Pub,I,h0,hn,hs⟩;unfold Qic at h;split at h
 ·exact h.elim
 ·next l hl =>
  split at h
  ·exact h.elim
  ·next C0 z F hcv =>
   split at h
   ·exact h.elim
   ·next C1 τ hfit =>
    split at h
    ·exact h.elim
    ·next C2 σ hfh =>
     cases hk0:Qkn kp σ && W3 (idK hout kp) && ndB st.heap F with
     | false=>rw [hk0] at h;exact h.elim
     | true =>
      rw [hk0] at h;rw [Qxo] at hk0;obtain ⟨hk0,hnd⟩:=hk0;rw [Qxo] at hk0;have hk:=hk0.1;obtain ⟨hC,_⟩:=Vl h;obtain ⟨vs,h1,h2⟩:=Qmi hP I hs hl
      obtain ⟨v,hv,hR⟩:∃ v,(results fn a.tmps).run P w=.ok v w/\RA w Pub φ (QnN l).av v:=by
       have hlen:=QU h2;rw [Qx] at hlen;refine ⟨if h:vs.toArray.size=1 then vs.toArray[0] else .tuple vs.toArray,?_,?_⟩
       ·rw [QjW,hr];simp [List.mapM_toArray,h1]
       ·match l,vs,h2,hlen with
        | [x],[u],h2,_ =>
         unfold avL RAs at h2;obtain ⟨u',us,e,h3,_⟩:=h2;cases e;simpa [QnN] using h3
        | [],[],h2,_=>simp only [QnN];unfold EV.av RA;exact ⟨[],by simp,h2⟩
        | x::y::l,u::u'::us,h2,_=>simp only [QnN];unfold EV.av RA;exact ⟨u::u'::us,by simp,h2⟩
      obtain ⟨f1,Pub',I',H',R'⟩:=QpZ (Sub.full st) (F0:=[]) res hcv (fun c hc=>hC c (Qxq _ hc)) (fun r e hm=>by cases hm) (by rw [Qxw];exact hnd) I hR;rw [Qxw] at I';obtain ⟨a1,a2,a3⟩:=Qkm res hfit (fun c hc=>hC c (Qxr _ (Qxq _ hc)));obtain ⟨b1,b2,b3⟩:=Qcs hfh (fun c hc=>hC c (Qxr _ (Qxr _ hc)));have ho:W3 σ=true:=b2 (a2 hk0.2);obtain ⟨c1,c2⟩:=b3 σ (Ext.refl _);refine ⟨h0,v,hv,v,(fun q=>if Q6 q σ=true then φ (sg σ q) else φ q),Pub',rfl,I'.ren ho hk c1 (fun q hq=>?_),?_⟩
      ·have e1:look OB.dead (obs hout) q=(look EB.dead hout q).ob:=Q9 _ _;have e2:look OB.dead (obs (F++st.heap)) (sg σ q)=(look EB.dead (F++st.heap) (sg σ q)).ob:=Q9 _ _;rw [e1,ZS] at hq;rw [e1,e2];exact c2 q hq
      ·exact (Qde (ψ:=φ) (fun q hq=>(if_pos hq).symm) _ _ (Qgh res hfit σ b1)).1 (a3 σ b1 _ _ _ _ R')
def slE:Nat->List EV->List (Nat×EV)
 | _,[]=>[]
 | i,x::xs=>(i,x)::slE (i+1) xs
theorem Qmk:∀ (i:Nat) (l:List EV),avs (slE i l)=Va i (avL l)
 | _,[]=>rfl
 | i,x::xs=>by simp only [slE,avs,avL,Va,Qmk (i+1) xs]
def D0:Nat->Array Oper->ES->(ES->Prop)->Prop:=fun _ _ _ _=>False
theorem D0_ok {m:Nat}:DOk P kp m D0:=fun _ _ _ _ _ _ h _=>h.elim
theorem Cf.intro {f m:Nat} {fn:Func} {c:Code} {rs:List ResultVar} {hin hout:List (Nat×EB)} {a5s:List EV} {res:EV} (tab:TT) (H:Hi) (D:Nat->Array Oper->ES->(ES->Prop)->Prop) (hcall:QX P f=true) (hP:tab.ok P) (hf:P.funcs[f]? = some fn) (hm:fn.ntmps=m) (hb:fn.body=some c) (hr:fn.results=rs.toArray)
  (hD:DOk P (hin.map (·.1)) m D) (hk:Nat.ble a5s.length m=true)
  (h:QeK (fun sl=>wpC P (hin.map (·.1)) m tab H D c (fun e st=>match e with | .ret=>Qic tab (hin.map (·.1)) rs hout res st | .normal=>Qic tab (hin.map (·.1)) rs hout res st | _=>False) ⟨sl,hin⟩) [] (slE 0 a5s)):Cf P f hin a5s hout res:=by
 rw [ZU,Qxw] at h;refine ⟨hcall,Ev.intro hf hb hm (by rw [Qx];exact Nat.le_of_ble_eq_true hk) (fun E=>?_)⟩
 have ek:(obs hin).map (·.1)=hin.map (·.1):=by
  clear h hD
  induction hin with
  | nil=>rfl
  | cons p l ih=>simp [obs,ih]
 rw [ek,<- Qmk];refine JV (E:=E) hP hD c _ _ ⟨slE 0 a5s,hin⟩ h fun e st h'=>?_
 cases e with
 | ret=>exact Qmj hP hr h'
 | normal=>exact To.ret_normal (Qmj hP hr h')
 | _=>exact h'.elim
end
end
section
open Go.RowKit
structure EF where
 sl:List (Nat×EV)
 hp:List (Nat×EB)
 rd:List Nat
 tb:List Nat
 nw:List Nat
def Yt (L:Nat->Bool) (b:List (Nat×EV)):List EF->List (Nat×EV)
 | []=>b
 | e::es=>if L es.length=true then e.sl++Yt L b es else Yt L b es
def Yu (L:Nat->Bool) (b:List (Nat×EB)):List EF->List (Nat×EB)
 | []=>b
 | e::es=>if L es.length=true then e.hp++Yu L b es else Yu L b es
def Qkt {α:Type} (f:Nat->Bool):List (Nat×α)->Bool
 | []=>false
 | p::l=>f p.1 || Qkt f l
def QtW (f:Nat->Bool):List Nat->Bool
 | []=>false
 | p::l=>f p || QtW f l
theorem YG {α:Type} {f:Nat->Bool} {s:Nat}:∀ {l:List (Nat×α)},QD s l=true->f s=true->Qkt f l=true
 | [],h,_=>by cases h
 | (k,x)::l,h,hf=>by
  simp only [QD,Qxt] at h;simp only [Qkt,Qxt];rcases h with h | h
  ·exact .inl (by rw [Qc h];exact hf)
  ·exact .inr (YG h hf)
theorem Qgq {f:Nat->Bool} {s:Nat}:∀ {l:List Nat},s∈l->f s=true->QtW f l=true
 | [],h,_=>by cases h
 | k::l,h,hf=>by
  simp only [QtW,Qxt];rcases Qxv.1 h with h | h
  ·exact .inl (by rw [<- h];exact hf)
  ·exact .inr (Qgq h hf)
def XQ (e f:EF):Bool :=
 Qkt (fun s=>QO s f.rd || QD s f.sl) e.sl || (Qkt (fun s=>QO s e.rd) f.sl || (Qkt (fun r=>QO r f.tb || QD r f.hp) e.hp || (Qkt (fun r=>QO r e.tb) f.hp || QtW (fun r=>YU r f.sl || Xu r f.hp) e.nw)))
def Qku (m i:Nat):Bool:=Qxx (Nat.land (Nat.shiftRight m i) 1) 1
theorem Qml (m i:Nat):Qku m i=Qxs m i:=by
 unfold Qku Qxs
 have h:Nat.land (Nat.shiftRight m i) 1=(m >>> i) % 2:=by
  show (m >>> i) &&& 1=_;exact Nat.and_one_is_mod _
 have h2:(1 &&& m >>> i)=(m >>> i) % 2:=Nat.one_and_eq_mod_two _;rw [h,h2];have:=Nat.mod_two_eq_zero_or_one (m >>> i);rcases this with k | k <;> rw [k] <;> rfl
def Qb5 (m:Nat) (f:EF):Nat->List EF->Bool
 | _,[]=>true
 | 0,_::_=>false
 | i+1,e::es=>(Qku m i || !XQ e f) && Qb5 m f i es
def orM (ms:List Nat):List Nat->Nat
 | []=>0
 | j::l=>Nat.lor (Nat.lor (ms.getD j 0) (Nat.shiftLeft 1 j)) (orM ms l)
def Qmm (i:Nat):List Nat->Bool
 | []=>true
 | j::l=>Qxu j i && Qmm i l
def Xj (ops:Array Oper) (ms:List Nat):Nat->Bool
 | 0=>true
 | i+1=>(Qmm i (QY ops i) && Qxx (Nat.lor (orM ms (QY ops i)) (ms.getD i 0)) (orM ms (QY ops i))) && Xj ops ms i
theorem Qid {i:Nat}:∀ {l:List Nat},Qmm i l=true -> ∀ j∈l,j < i
 | [],_,j,hj=>by cases hj
 | k::l,h,j,hj=>by
  simp only [Qmm,Qxo] at h;rcases Qxv.1 hj with e | e
  ·subst e;have:=h.1;rwa [Nat.blt_eq] at this
  ·exact Qid h.2 j e
theorem Qqh {ms:List Nat} {k:Nat}:∀ {l:List Nat},Qxs (orM ms l) k=true->∃ j∈l,j=k\/Qxs (ms.getD j 0) k=true
 | [],h=>by simp [orM] at h
 | j::l,h=>by
  unfold orM at h;have h:Qxs (((ms.getD j 0) ||| (1 <<< j)) ||| orM ms l) k=true:=h;rw [Qxy,Qxy,Qxt,Qxt] at h;rcases h with (h | h) | h
  ·exact ⟨j,by simp,.inr h⟩
  ·refine ⟨j,by simp,.inl ?_⟩;rw [Nat.testBit_shiftLeft] at h;simp only [Qxo,decide_eq_true_eq,Nat.testBit_one_eq_true_iff_self_eq_zero] at h;omega
  ·obtain ⟨j',h1,h2⟩:=Qqh h;exact ⟨j',Qxp _ h1,h2⟩
theorem JW {ops:Array Oper} {ms:List Nat} {i:Nat}:∀ {m:Nat},Xj ops ms m=true->i < m->(∀ j∈QY ops i,j < i) /\ ∀ k,Qku (ms.getD i 0) k=true->Qxs (orM ms (QY ops i)) k=true
 | 0,_,h=>by omega
 | m+1,ho,h=>by
  simp only [Xj,Qxo] at ho;by_cases e:i=m
  ·subst e;refine ⟨Qid ho.1.1,fun k hk=>?_⟩;have e2:=Qc ho.1.2;rw [Qml] at hk;rw [<- e2];show Qxs (_ ||| _) k=true;rw [Qxy,hk,Bool.or_true]
  ·exact JW ho.2 (by omega)
theorem Qmn {ops:Array Oper} {ms:List Nat} {m:Nat} (ho:Xj ops ms m=true) {L:Nat->Bool} (hL:∀ i,i < m->L i=true -> ∀ j∈QY ops i,L j=true) :
  ∀ i,i < m->(∀ j∈QY ops i,L j=true) -> ∀ k,Qku (ms.getD i 0) k=true->L k=true:=by
 intro i
 induction i using Nat.strongRecOn with
 | _ i ih =>
  intro hi hd k hk;obtain ⟨h1,h2⟩:=JW ho hi;obtain ⟨j,hj,h3⟩:=Qqh (h2 k hk);rcases h3 with rfl | h3
  ·exact hd _ hj
  ·have hji:=h1 j hj;exact ih j hji (by omega) (hL j (by omega) (hd j hj)) k (by rw [Qml];exact h3)
def WQ (i:Nat):List EF->Option EF
 | []=>none
 | e::es=>if i=es.length then some e else WQ i es
def XR (i:Nat):List EF->List EF
 | []=>[]
 | e::es=>if i<=es.length then XR i es else e::es
theorem Ze {i:Nat} {f:EF}:∀ {es:List EF},WQ i es=some f->i < es.length
 | [],h=>by cases h
 | e::es,h=>by
  unfold WQ at h;split at h
  ·next k=>subst k;simp
  ·have:=Ze h;simp;omega
theorem XS {L L':Nat->Bool} {b:List (Nat×EV)} {s:Nat}:∀ {es:List EF},(∀ k f,WQ k es=some f->QD s f.sl=true->L k=L' k)->look EV.any (Yt L b es) s=look EV.any (Yt L' b es) s
 | [],_=>rfl
 | e::es,h=>by
  have ih:=XS (L:=L) (L':=L') (b:=b) (s:=s) (es:=es) (fun k f hk hs=>h k f (by
   unfold WQ;rw [if_neg (by have:=Ze hk;omega)];exact hk) hs)
  have h0:=h es.length e (by simp [WQ]);unfold Yt
  cases hs:QD s e.sl with
  | true =>
   rw [h0 hs];split
   ·rw [Qv,Qv,if_pos hs,if_pos hs]
   ·exact ih
  | false =>
   have hn:∀ X:List (Nat×EV),look EV.any (e.sl++X) s=look EV.any X s:=fun X=>by rw [Qv,if_neg (by rw [hs];simp)]
   split <;> split <;> (try simp only [hn]) <;> exact ih
theorem XT {L L':Nat->Bool} {b:List (Nat×EB)} {s:Nat}:∀ {es:List EF},(∀ k f,WQ k es=some f->QD s f.hp=true->L k=L' k)->look EB.dead (Yu L b es) s=look EB.dead (Yu L' b es) s
 | [],_=>rfl
 | e::es,h=>by
  have ih:=XT (L:=L) (L':=L') (b:=b) (s:=s) (es:=es) (fun k f hk hs=>h k f (by
   unfold WQ;rw [if_neg (by have:=Ze hk;omega)];exact hk) hs)
  have h0:=h es.length e (by simp [WQ]);unfold Yu
  cases hs:QD s e.hp with
  | true =>
   rw [h0 hs];split
   ·rw [Qv,Qv,if_pos hs,if_pos hs]
   ·exact ih
  | false =>
   have hn:∀ X:List (Nat×EB),look EB.dead (e.hp++X) s=look EB.dead X s:=fun X=>by rw [Qv,if_neg (by rw [hs];simp)]
   split <;> split <;> (try simp only [hn]) <;> exact ih
theorem Qie {L:Nat->Bool} {b:List (Nat×EV)} {s i:Nat} {e:EF} (hs:QD s e.sl=true):∀ {es:List EF},WQ i es=some e->L i=true->(∀ k f,i < k->WQ k es=some f->QD s f.sl=true->L k=false)->look EV.any (Yt L b es) s=look EV.any e.sl s
 | [],h,_,_=>by cases h
 | f::es,h,hi,hk=>by
  unfold WQ at h;unfold Yt;split at h
  ·next e1=>cases h;rw [<- e1,if_pos hi,Qv,if_pos hs]
  ·next hne =>
   have hlt:=Ze h
   have ih:=Qie (L:=L) (b:=b) hs h hi (fun k g h1 h2 h3=>hk k g h1 (by
    unfold WQ;rw [if_neg (by have:=Ze h2;omega)];exact h2) h3)
   split
   ·next hL =>
    cases hf:QD s f.sl with
    | true=>rw [hk es.length f hlt (by simp [WQ]) hf] at hL;cases hL
    | false=>rw [Qv,if_neg (by rw [hf];simp)];exact ih
   ·exact ih
theorem Qif {L:Nat->Bool} {b:List (Nat×EB)} {s i:Nat} {e:EF} (hs:QD s e.hp=true):∀ {es:List EF},WQ i es=some e->L i=true->(∀ k f,i < k->WQ k es=some f->QD s f.hp=true->L k=false)->look EB.dead (Yu L b es) s=look EB.dead e.hp s
 | [],h,_,_=>by cases h
 | f::es,h,hi,hk=>by
  unfold WQ at h;unfold Yu;split at h
  ·next e1=>cases h;rw [<- e1,if_pos hi,Qv,if_pos hs]
  ·next hne =>
   have hlt:=Ze h
   have ih:=Qif (L:=L) (b:=b) hs h hi (fun k g h1 h2 h3=>hk k g h1 (by
    unfold WQ;rw [if_neg (by have:=Ze h2;omega)];exact h2) h3)
   split
   ·next hL =>
    cases hf:QD s f.hp with
    | true=>rw [hk es.length f hlt (by simp [WQ]) hf] at hL;cases hL
    | false=>rw [Qv,if_neg (by rw [hf];simp)];exact ih
   ·exact ih
theorem Qqi:∀ (es:List EF),XR es.length es=es
 | []=>rfl
 | e::es=>by unfold XR;rw [if_neg (by simp)]
theorem VX {i:Nat} (b:List (Nat×EV)) (c:List (Nat×EB)):∀ (es:List EF),Yt (fun k=>decide (k < i)) b es=Yt (fun _=>true) b (XR i es)/\Yu (fun k=>decide (k < i)) c es=Yu (fun _=>true) c (XR i es)
 | []=>⟨rfl,rfl⟩
 | e::es=>by
  obtain ⟨h1,h2⟩:=VX b c es;by_cases h:i<=es.length
  ·have e0:XR i (e::es)=XR i es:=by rw [XR,if_pos h]
   rw [e0];refine ⟨?_,?_⟩
   ·rw [<- h1];show (if decide (es.length < i)=true then _ else _)=_;rw [if_neg (by simp;omega)]
   ·rw [<- h2];show (if decide (es.length < i)=true then _ else _)=_;rw [if_neg (by simp;omega)]
  ·have e1:XR i (e::es)=e::es:=by unfold XR;rw [if_neg h]
   rw [e1]
   have hall:∀ (l:List EF),l.length<=i->Yt (fun k=>decide (k < i)) b l=Yt (fun _=>true) b l/\Yu (fun k=>decide (k < i)) c l=Yu (fun _=>true) c l:=by
    intro l
    induction l with
    | nil=>intro _;exact ⟨rfl,rfl⟩
    | cons f l ih =>
     intro hl;simp only [List.length_cons] at hl;obtain ⟨k1,k2⟩:=ih (by omega);refine ⟨?_,?_⟩
     ·show (if decide (l.length < i)=true then _ else _)=(if true=true then _ else _);rw [if_pos (by simp;omega),if_pos rfl,k1]
     ·show (if decide (l.length < i)=true then _ else _)=(if true=true then _ else _);rw [if_pos (by simp;omega),if_pos rfl,k2]
   exact hall _ (by simp only [List.length_cons];omega)
theorem VY (r:Nat):∀ (l m:List (Nat×EV)),YU r (l++m)=(YU r l || YU r m)
 | [],m=>by simp [YU]
 | p::l,m=>by simp only [List.cons_append,YU,VY r l m,Bool.or_assoc]
theorem VZ (r:Nat):∀ (l m:List (Nat×EB)),Xu r (l++m)=(Xu r l || Xu r m)
 | [],m=>by simp [Xu]
 | p::l,m=>by simp only [List.cons_append,Xu,VZ r l m,Bool.or_assoc]
theorem Qig {r:Nat} {L:Nat->Bool} {b:List (Nat×EV)}:∀ {es:List EF},YU r b=false->(∀ k f,WQ k es=some f->L k=true->YU r f.sl=false)->YU r (Yt L b es)=false
 | [],hb,_=>hb
 | e::es,hb,h=>by
  have ih:=Qig (L:=L) (es:=es) hb (fun k f hk hL=>h k f (by unfold WQ;rw [if_neg (by have:=Ze hk;omega)];exact hk) hL);unfold Yt;split
  ·next hL=>rw [VY,ih,h es.length e (by simp [WQ]) hL];rfl
  ·exact ih
theorem Qih {r:Nat} {L:Nat->Bool} {b:List (Nat×EB)}:∀ {es:List EF},Xu r b=false->(∀ k f,WQ k es=some f->L k=true->Xu r f.hp=false)->Xu r (Yu L b es)=false
 | [],hb,_=>hb
 | e::es,hb,h=>by
  have ih:=Qih (L:=L) (es:=es) hb (fun k f hk hL=>h k f (by unfold WQ;rw [if_neg (by have:=Ze hk;omega)];exact hk) hL);unfold Yu;split
  ·next hL=>rw [VZ,ih,h es.length e (by simp [WQ]) hL];rfl
  ·exact ih
theorem V0 {r:Nat} {L:Nat->Bool} {b:List (Nat×EV)}:∀ {es:List EF},YU r (Yt L b es)=false->YU r b=false /\ ∀ k f,WQ k es=some f->L k=true->YU r f.sl=false
 | [],h=>⟨h,fun k f hk=>by cases hk⟩
 | e::es,h=>by
  unfold Yt at h;split at h
  ·next hL =>
   rw [VY,Qxz] at h;obtain ⟨h1,h2⟩:=V0 h.2;refine ⟨h1,fun k f hk hLk=>?_⟩;unfold WQ at hk;split at hk
   ·cases hk;exact h.1
   ·exact h2 k f hk hLk
  ·next hL =>
   obtain ⟨h1,h2⟩:=V0 h;refine ⟨h1,fun k f hk hLk=>?_⟩;unfold WQ at hk;split at hk
   ·next e1=>subst e1;exact absurd hLk hL
   ·exact h2 k f hk hLk
theorem V1 {r:Nat} {L:Nat->Bool} {b:List (Nat×EB)}:∀ {es:List EF},Xu r (Yu L b es)=false->Xu r b=false /\ ∀ k f,WQ k es=some f->L k=true->Xu r f.hp=false
 | [],h=>⟨h,fun k f hk=>by cases hk⟩
 | e::es,h=>by
  unfold Yu at h;split at h
  ·next hL =>
   rw [VZ,Qxz] at h;obtain ⟨h1,h2⟩:=V1 h.2;refine ⟨h1,fun k f hk hLk=>?_⟩;unfold WQ at hk;split at hk
   ·cases hk;exact h.1
   ·exact h2 k f hk hLk
  ·next hL =>
   obtain ⟨h1,h2⟩:=V1 h;refine ⟨h1,fun k f hk hLk=>?_⟩;unfold WQ at hk;split at hk
   ·next e1=>subst e1;exact absurd hLk hL
   ·exact h2 k f hk hLk
end
end Go.Proofs.YtcebndkiagbddaaGreatDoor
