/- A part of the proof: contracts of functions and what they stand on. Written shorter and merged by a program (pack.py). -/
import Derived.Test.YtcebndkiagbddaaGreatDoorK6
set_option linter.unusedVariables false
set_option linter.unusedSimpArgs false
set_option maxRecDepth 100000
set_option maxHeartbeats 4000000
open BitVec renaming ofInt -> Qxo, eq_of_toNat_eq -> QxL, toNat_ofInt -> QxQ, allOnes_xor -> QxR
open Nat renaming blt -> Qxp, mod_eq_of_lt -> Qxz, blt_eq -> QxF, succ_mul -> QxW, le_refl -> QxX
open List renaming range -> Qxq, mem_singleton -> Qxu, getElem?_map -> QxC, take_of_length_le -> QxE, flatMap_append -> QxI, range_succ -> QxK, getElem?_eq_none -> QxM, map_congr_left -> QxP, set_cons_succ -> QxS, getElem?_take -> QxT, getElem?_drop -> QxU, length_append -> QxV
open Int renaming eq_ofNat_of_zero_le -> Qxr, ofNat -> Qxy
open UInt32 renaming toNat_ofNat' -> Qxs, ofNat -> Qxx, toNat_inj -> QxJ, toBitVec_and -> QxN, toBitVec_not -> QxO
open UInt64 renaming toNat_ofNat' -> Qxt, ofNat -> QxB
open Bool renaming and_eq_true -> Qxv
open UInt8 renaming toNat_ofNat' -> Qxw, toNat_inj -> QxA, ofNat -> QxD
open Option renaming map_some -> QxG, map_none -> QxH
namespace Go.Proofs.YtcebndkiagbddaaGreatDoor
section
open Go.RowKit
theorem Qc {a b:Nat} (h:Nat.beq a b=true):a=b:=Nat.eq_of_beq_eq_true h
theorem ZW {x:EV} {i:Int} (h:ZV x=some i):x=.i i:=by
 unfold ZV at h;split at h <;> cases h;rfl
theorem Qbv {x:EV} {i:Bool} (h:asB x=some i):x=.b i:=by
 unfold asB at h;split at h <;> cases h;rfl
theorem Zs {x:EV} {i:List UInt8} (h:asS x=some i):x=.s i:=by
 unfold asS at h;split at h <;> cases h;rfl
theorem Qs9 {x:EV} {b:Bool} (h:nilP x=some b) {y:AV} (g:Gv y x.av):Qpq b y:=by
 unfold nilP at h;split at h <;> cases h <;> intro w Pub φ u hu <;> have k:=g _ _ _ _ hu <;> (first | unfold EV.av at k | skip) <;> (first | unfold EV.pv at k | skip) <;> unfold RA at k
 ·unfold RP at k;exact ⟨none,k,rfl⟩
 ·next t =>
  cases t with
  | none=>unfold rpP RP at k;exact ⟨none,k,rfl⟩
  | some c=>unfold rpP RP at k;obtain ⟨b,o,e,_⟩:=k;exact ⟨_,e,rfl⟩
 ·unfold RP at k;obtain ⟨b,o,e,_⟩:=k;exact ⟨_,e,rfl⟩
 ·unfold RP at k;obtain ⟨b,o,e,_⟩:=k;exact ⟨_,e,rfl⟩
 ·unfold RP at k;obtain ⟨b,o,e,_⟩:=k;exact ⟨_,e,rfl⟩
 ·obtain ⟨b,c,_,e⟩:=k;exact ⟨_,e,rfl⟩
 ·obtain ⟨b,c,_,e⟩:=k;exact ⟨_,e,rfl⟩
theorem Qny {x:EV} (h:Qj8 x=true):x=.v (.pointer none):=by
 unfold Qj8 at h;split at h
 ·rfl
 ·cases h
theorem VQ {x:EV} {k:IntKind} {i:Int} (h:YV x=some (k,i)):Gv x.av (.p (.v (.int k i))):=by
 unfold YV at h;split at h <;> cases h <;> exact Gv.r
theorem Jh {x:EV} {c:UInt8} (h:Qbs x=some c):Gv x.av (.p (b8P c)):=by
 unfold Qbs at h;split at h
 ·cases h;exact Gv.r
 ·next m =>
  cases hb:Qxp m 256 with
  | false=>rw [hb] at h;cases h
  | true =>
   rw [hb] at h;cases h;rw [QxF] at hb;have e:((QxD m).toNat:Int)=Qxy m:=by rw [Qxw];simp;omega
   show Gv (.p (.v (.int .u8 (Qxy m)))) (.p (.v (.int .u8 ((QxD m).toNat:Int))));rw [e];exact Gv.r
 ·cases h
theorem VR {x:EV} {c:UInt32} (h:YA x=some c):Gv x.av (.p (Qhy c)):=by
 unfold YA at h;split at h
 ·cases h;exact Gv.r
 ·next m =>
  cases hb:Qxp m 4294967296 with
  | false=>rw [hb] at h;cases h
  | true =>
   rw [hb] at h;cases h;rw [QxF] at hb;have e:((Qxx m).toNat:Int)=Qxy m:=by rw [Qxs];simp;omega
   show Gv (.p (.v (.int .u32 (Qxy m)))) (.p (.v (.int .u32 ((Qxx m).toNat:Int))));rw [e];exact Gv.r
 ·cases h
theorem Qf8 (c:UInt32):Qxo 32 (c.toNat:Int)=c.toBitVec:=by
 apply QxL;have:=c.toNat_lt;rw [QxQ];show _=c.toNat;simp only [Nat.reducePow,Int.cast_ofNat_Int];omega
theorem Qe3 (c:UInt32):IntKind.u32.wrap (c.toNat:Int)=(c.toNat:Int):=by
 have:=c.toNat_lt;rw [IntKind.wrap_u32];omega
theorem QvY (b c:UInt32):IntKind.u32.wrap ((Qxo IntKind.u32.bits (b.toNat:Int) ^^^ Qxo IntKind.u32.bits (c.toNat:Int)).toNat:Int)=((b ^^^ c).toNat:Int):=by
 show IntKind.u32.wrap ((Qxo 32 (b.toNat:Int) ^^^ Qxo 32 (c.toNat:Int)).toNat:Int)=_;rw [Qf8,Qf8,<- UInt32.toBitVec_xor];exact Qe3 _
theorem u32or (b c:UInt32):IntKind.u32.wrap ((Qxo IntKind.u32.bits (b.toNat:Int) ||| Qxo IntKind.u32.bits (c.toNat:Int)).toNat:Int)=((b ||| c).toNat:Int):=by
 show IntKind.u32.wrap ((Qxo 32 (b.toNat:Int) ||| Qxo 32 (c.toNat:Int)).toNat:Int)=_;rw [Qf8,Qf8,<- UInt32.toBitVec_or];exact Qe3 _
theorem QvZ (b c:UInt32):IntKind.u32.wrap ((Qxo IntKind.u32.bits (b.toNat:Int) &&& Qxo IntKind.u32.bits (c.toNat:Int)).toNat:Int)=((b &&& c).toNat:Int):=by
 show IntKind.u32.wrap ((Qxo 32 (b.toNat:Int) &&& Qxo 32 (c.toNat:Int)).toNat:Int)=_;rw [Qf8,Qf8,<- QxN];exact Qe3 _
theorem Qnz (b c:UInt32):IntKind.u32.wrap ((Qxo IntKind.u32.bits (b.toNat:Int) &&& ~~~ Qxo IntKind.u32.bits (c.toNat:Int)).toNat:Int)=((b &&& ~~~c).toNat:Int):=by
 show IntKind.u32.wrap ((Qxo 32 (b.toNat:Int) &&& ~~~ Qxo 32 (c.toNat:Int)).toNat:Int)=_;rw [Qf8,Qf8,<- QxO,<- QxN];exact Qe3 _
theorem Qv0 (b c:UInt32):IntKind.u32.wrap ((b.toNat:Int)+(c.toNat:Int))=((b+c).toNat:Int):=by
 rw [IntKind.wrap_u32,UInt32.toNat_add];simp
theorem Qv1 (b c:UInt32):IntKind.u32.wrap ((b.toNat:Int) - (c.toNat:Int))=((b - c).toNat:Int):=by
 have:=b.toNat_lt;have:=c.toNat_lt;rw [IntKind.wrap_u32,UInt32.toNat_sub];simp;omega
theorem VS {x:EV} {c:UInt64} (h:XL x=some c):Gv x.av (.p (Qj6 c)):=by
 unfold XL at h;split at h
 ·cases h;exact Gv.r
 ·next m =>
  cases hb:Qxp m 18446744073709551616 with
  | false=>rw [hb] at h;cases h
  | true =>
   rw [hb] at h;cases h;rw [QxF] at hb;have e:((QxB m).toNat:Int)=Qxy m:=by rw [Qxt];simp;omega
   show Gv (.p (.v (.int .u64 (Qxy m)))) (.p (.v (.int .u64 ((QxB m).toNat:Int))));rw [e];exact Gv.r
 ·cases h
theorem bv64 (c:UInt64):Qxo 64 (c.toNat:Int)=c.toBitVec:=by
 apply QxL;have:=c.toNat_lt;rw [QxQ];show _=c.toNat;simp only [Nat.reducePow,Int.cast_ofNat_Int];omega
theorem Qvw (c:UInt64):IntKind.u64.wrap (c.toNat:Int)=(c.toNat:Int):=by
 have:=c.toNat_lt;rw [IntKind.wrap_u64];omega
theorem u8add (b c:UInt8):IntKind.u8.wrap ((b.toNat:Int)+(c.toNat:Int))=((b+c).toNat:Int):=by
 rw [IntKind.wrap_u8,UInt8.toNat_add];simp
theorem u8sub (b c:UInt8):IntKind.u8.wrap ((b.toNat:Int) - (c.toNat:Int))=((b - c).toNat:Int):=by
 have:=b.toNat_lt;have:=c.toNat_lt;rw [IntKind.wrap_u8,UInt8.toNat_sub];simp;omega
theorem Qke {x:EV} {c:UInt8} (h:Qbs x=some c):x.av=.p (.v (.int .u8 (c.toNat:Int))):=by
 unfold Qbs at h;split at h
 ·cases h;rfl
 ·next m =>
  obtain ⟨hb,h⟩:=QA h;cases h;rw [QxF] at hb;show AV.p (.v (.int .u8 (Qxy m)))=_;rw [Qxw,Qxz (by simpa using hb)];rfl
 ·cases h
theorem Qf9 {x:EV} {c:UInt32} (h:YA x=some c):x.av=.p (.v (.int .u32 (c.toNat:Int))):=by
 unfold YA at h;split at h
 ·cases h;rfl
 ·next m =>
  obtain ⟨hb,h⟩:=QA h;cases h;rw [QxF] at hb;show AV.p (.v (.int .u32 (Qxy m)))=_;rw [Qxs,Qxz (by simpa using hb)];rfl
 ·cases h
theorem Qga {x:EV} {c:UInt64} (h:XL x=some c):x.av=.p (.v (.int .u64 (c.toNat:Int))):=by
 unfold XL at h;split at h
 ·cases h;rfl
 ·next m =>
  obtain ⟨hb,h⟩:=QA h;cases h;rw [QxF] at hb;show AV.p (.v (.int .u64 (Qxy m)))=_;rw [Qxt,Qxz (by simpa using hb)];rfl
 ·cases h
theorem Qv2 {k:CK} {x y:EV} {b:Bool} (h:eqF k x y=some b):∃ u v,x.av=.p (.v u)/\y.av=.p (.v v)/\k.ok u/\k.ok v/\Qbn u v=b:=by
 have dd:∀ {a c:Prop} [Decidable a] [Decidable c],(a↔c)->decide a=decide c:=fun {a c} _ _ h=>by simp only [h]
 have nn:∀ {a c:Nat},((a:Int) == (c:Int))=decide (a=c):=fun {a c}=>by rw [Bool.eq_iff_iff];simp;omega
 unfold eqF at h;split at h
 ·split at h
  ·next a c ha hc=>cases h;exact ⟨_,_,Qke ha,Qke hc,rfl,rfl,by show ((_:Int) == _)=_;rw [nn];exact dd QxA⟩
  ·cases h
 ·split at h
  ·next a c ha hc=>cases h;exact ⟨_,_,Qf9 ha,Qf9 hc,rfl,rfl,by show ((_:Int) == _)=_;rw [nn];exact dd QxJ⟩
  ·cases h
 ·split at h
  ·next a c ha hc=>cases h;exact ⟨_,_,Qga ha,Qga hc,rfl,rfl,by show ((_:Int) == _)=_;rw [nn];exact dd UInt64.toNat_inj⟩
  ·cases h
 ·split at h
  ·next a c ha hc=>cases h;rw [ZW ha,ZW hc];exact ⟨_,_,rfl,rfl,rfl,rfl,by show ((_:Int) == _)=_;rw [Bool.eq_iff_iff];simp⟩
  ·cases h
 ·split at h
  ·next a c ha hc=>cases h;rw [Qbv ha,Qbv hc];exact ⟨_,_,rfl,rfl,trivial,trivial,rfl⟩
  ·cases h
 ·split at h
  ·next a c ha hc=>cases h;rw [Zs ha,Zs hc];exact ⟨_,_,rfl,rfl,trivial,trivial,by unfold Qbn;exact beqS _ _⟩
  ·cases h
 ·cases h
theorem QpC:∀ {ks:List CK} {xs ys:List EV} {b:Bool},eqE ks xs ys=some b->∃ us vs,Xe (avL xs)=some us/\Xe (avL ys)=some vs/\okL ks us/\okL ks vs/\QZ us vs=b
 | [],[],[],b,h=>by cases h;exact ⟨[],[],rfl,rfl,trivial,trivial,rfl⟩
 | k::ks,x::xs,y::ys,b,h=>by
  unfold eqE at h;split at h
  ·next b1 hb1 =>
   obtain ⟨u,v,k1,k2,k3,k4,k5⟩:=Qv2 hb1;split at h
   ·split at h
    ·cases h;refine ⟨[u],[v],by simp [avL,Xe,k1],by simp [avL,Xe,k2],⟨k3,trivial⟩,⟨k4,trivial⟩,?_⟩;simp [QZ,k5]
    ·cases h
   ·split at h
    ·next c hc =>
     cases h;obtain ⟨us,vs,l1,l2,l3,l4,l5⟩:=QpC hc;refine ⟨u::us,v::vs,by simp [avL,Xe,k1,l1],by simp [avL,Xe,k2,l2],⟨k3,l3⟩,⟨k4,l4⟩,?_⟩;simp [QZ,k5,l5]
    ·cases h
  ·cases h
 | [],_::_,_,_,h=>by cases h
 | [],[],_::_,_,h=>by cases h
 | _::_,[],_,_,h=>by cases h
 | _::_,_::_,[],_,h=>by cases h
section
variable {P:Program} {E:Env} {kp:List Nat} {n:Nat} {ops:Array Oper} {st:AS} {d:Nat} {ty:TypeId} {ps:String} {af:Array Edge}
variable {T T':TypeId} {x y:Operand}
theorem Qd.cast {o:Oper} {st st' st'':AS} (h:Qd P E kp n ops o st st') (e:st'=st''):Qd P E kp n ops o st st'':=e ▸ h
theorem Wq {st:AS} {d:Nat} {x y:AV} (e:x=y):st.put d x=st.put d y:=by rw [e]
theorem Qkf {op:BinOp} {wr:Bool} {r:Int} {C:List Prop} {z:EV} (h:arF wr r=some (C,z)) (hC:∀ c∈C,c) (k:∀ q,IntKind.i64.wrap r=q->Qd P E kp n ops ⟨some d,.binOp op T x y T',ty,ps,af,none⟩ st (st.put d (.p (.v (.int .i64 q))))) :
  Qd P E kp n ops ⟨some d,.binOp op T x y T',ty,ps,af,none⟩ st (st.put d z.av):=by
 unfold arF at h
 cases wr with
 | true=>cases h;exact k _ rfl
 | false =>
  cases h;have:=hC (-9223372036854775808<=r/\r<=9223372036854775807) (by simp);exact k _ (w64 this.1 this.2)
theorem Qta {op:BinOp} {wr:Bool} {i j:Int} {C:List Prop} {z:EV} (h:intF wr i j op=some (C,z)) (hC:∀ c∈C,c) (hd:Qxp d n=true)
  (hx:Gv (st.ev x) (.p (.v (.int .i64 i)))) (hy:Gv (st.ev y) (.p (.v (.int .i64 j)))):Qd P E kp n ops ⟨some d,.binOp op T x y T',ty,ps,af,none⟩ st (st.put d z.av):=by
 unfold intF at h;split at h
 case h_1=>cases h;exact S_lt hx hy hd
 case h_2=>cases h;exact S_le hx hy hd
 case h_3=>cases h;exact S_gt hx hy hd
 case h_4=>cases h;exact S_ge hx hy hd
 case h_5=>cases h;exact S_eq hx hy hd
 case h_6=>cases h;exact S_ne hx hy hd
 case h_7=>exact Qkf h hC fun q e=>QjN hx hy hd e
 case h_8=>exact Qkf h hC fun q e=>QjO hx hy hd e
 case h_9=>exact Qkf h hC fun q e=>QvN hx hy hd e
 case h_10 =>
  cases h;have h1:=hC (0<=i/\0 < j) (by simp);have h2:=hC (i<=9223372036854775807) (by simp);refine QvO hx hy hd (by omega) ?_;rw [Int.tdiv_eq_ediv_of_nonneg h1.1];have h3:0<=i / j:=Int.ediv_nonneg h1.1 (by omega);have h4:i / j<=i:=Int.ediv_le_self _ h1.1;exact w64 (by omega) (by omega)
 case h_11 =>
  cases h;have h1:=hC (0<=i/\0 < j) (by simp);exact QvP hx hy hd (by omega) (Int.tmod_eq_emod_of_nonneg h1.1)
 case h_12=>cases h;exact Qpa hx hy hd rfl
 case h_13=>cases h;exact QjP hx hy hd rfl
 case h_14=>cases h;exact QjQ hx hy hd rfl
 case h_15=>cases h
theorem Qv3 {op:BinOp} {i j:UInt8} {z:EV} (h:u8F i j op=some z) (hd:Qxp d n=true)
  (hx:Gv (st.ev x) (.p (b8P i))) (hy:Gv (st.ev y) (.p (b8P j))):Qd P E kp n ops ⟨some d,.binOp op T x y T',ty,ps,af,none⟩ st (st.put d z.av):=by
 unfold u8F at h
 have e:∀ a b:Prop,∀ [Decidable a] [Decidable b],(a↔b)->(AV.p (.v (.bool (decide a))))=.p (.v (.bool (decide b))):=fun a b _ _ h=>by
  simp only [h]
 split at h
 case h_1=>cases h;exact (S_lt hx hy hd).cast (Wq (e _ _ (by omega)))
 case h_2=>cases h;exact (S_le hx hy hd).cast (Wq (e _ _ (by omega)))
 case h_3=>cases h;exact (S_gt hx hy hd).cast (Wq (e _ _ (by omega)))
 case h_4=>cases h;exact (S_ge hx hy hd).cast (Wq (e _ _ (by omega)))
 case h_5=>cases h;exact (S_eq hx hy hd).cast (Wq (e _ _ ⟨fun q=>QxA.1 (by omega),fun q=>by rw [q]⟩))
 case h_6 =>
  cases h
  have e2:decide ((i.toNat:Int)=(j.toNat:Int))=decide (i=j):=by
   rw [decide_eq_decide];exact ⟨fun q=>QxA.1 (by omega),fun q=>by rw [q]⟩
  exact (S_ne hx hy hd).cast (Wq (by rw [e2];rfl))
 case h_7=>cases h;exact QjN hx hy hd (u8add _ _)
 case h_8=>cases h;exact QjO hx hy hd (u8sub _ _)
 case h_9=>cases h;exact QjP hx hy hd (u8and _ _)
 case h_10=>cases h;exact Qpa hx hy hd (u8or _ _)
 case h_11=>cases h;exact QjQ hx hy hd (u8xor _ _)
 case h_12=>cases h
theorem Qtb {op:BinOp} {i j:UInt32} {z:EV} (h:Qs4 i j op=some z) (hd:Qxp d n=true)
  (hx:Gv (st.ev x) (.p (Qhy i))) (hy:Gv (st.ev y) (.p (Qhy j))):Qd P E kp n ops ⟨some d,.binOp op T x y T',ty,ps,af,none⟩ st (st.put d z.av):=by
 unfold Qs4 at h
 have e:∀ a b:Prop,∀ [Decidable a] [Decidable b],(a↔b)->(AV.p (.v (.bool (decide a))))=.p (.v (.bool (decide b))):=fun a b _ _ h=>by
  simp only [h]
 split at h
 case h_1=>cases h;exact (S_lt hx hy hd).cast (Wq (e _ _ (by omega)))
 case h_2=>cases h;exact (S_le hx hy hd).cast (Wq (e _ _ (by omega)))
 case h_3=>cases h;exact (S_gt hx hy hd).cast (Wq (e _ _ (by omega)))
 case h_4=>cases h;exact (S_ge hx hy hd).cast (Wq (e _ _ (by omega)))
 case h_5=>cases h;exact (S_eq hx hy hd).cast (Wq (e _ _ ⟨fun q=>QxJ.1 (by omega),fun q=>by rw [q]⟩))
 case h_6 =>
  cases h
  have e2:decide ((i.toNat:Int)=(j.toNat:Int))=decide (i=j):=by
   rw [decide_eq_decide];exact ⟨fun q=>QxJ.1 (by omega),fun q=>by rw [q]⟩
  exact (S_ne hx hy hd).cast (Wq (by rw [e2];rfl))
 case h_7=>cases h;exact QjN hx hy hd (Qv0 _ _)
 case h_8=>cases h;exact QjO hx hy hd (Qv1 _ _)
 case h_9=>cases h;exact QjP hx hy hd (QvZ _ _)
 case h_10=>cases h;exact Qpa hx hy hd (u32or _ _)
 case h_11=>cases h;exact QjQ hx hy hd (QvY _ _)
 case h_12=>cases h;exact Qni hx hy hd (Qnz _ _)
 case h_13=>cases h
theorem Qtc {op:BinOp} {i j:UInt64} {z:EV} (h:Qs5 i j op=some z) (hd:Qxp d n=true)
  (hx:Gv (st.ev x) (.p (Qj6 i))) (hy:Gv (st.ev y) (.p (Qj6 j))):Qd P E kp n ops ⟨some d,.binOp op T x y T',ty,ps,af,none⟩ st (st.put d z.av):=by
 unfold Qs5 at h;cases h
theorem Qtd {op:BinOp} {l m:List UInt8} {C:List Prop} {z:EV} (h:strF l m op=some (C,z)) (hC:∀ c∈C,c) (hd:Qxp d n=true)
  (hx:Gv (st.ev x) (.p (Zj l))) (hy:Gv (st.ev y) (.p (Zj m))):Qd P E kp n ops ⟨some d,.binOp op T x y T',ty,ps,af,none⟩ st (st.put d z.av):=by
 unfold strF at h;split at h
 case h_1=>cases h;exact Qpk hx hy (hC _ (by simp)) hd
 case h_2=>cases h;exact QsN hx hy hd
 case h_3=>cases h;exact QsO hx hy hd
 case h_4=>cases h;exact QsP hx hy hd
 case h_5=>cases h;exact QsQ hx hy hd
 case h_6=>cases h;exact QsY hx hy hd
 case h_7=>cases h;exact QsZ hx hy hd
 case h_8=>cases h
theorem QpD {op:BinOp} {g q:Bool} {z:EV} (h:Qpu g q op=some z) (hu:P.underlying T=some .bool) (hd:Qxp d n=true)
  (hx:Gv (st.ev x) (.p (VF g))) (hy:Gv (st.ev y) (.p (VF q))):Qd P E kp n ops ⟨some d,.binOp op T x y T',ty,ps,af,none⟩ st (st.put d z.av):=by
 have hr:∀ w,(Op.equal T (.bool g) (.bool q)).run P w=.ok (g == q) w:=fun w=>by
  unfold Op.equal Op.maxDepth;exact run_equalIn_bool w 9999 T g q hu
 unfold Qpu at h;split at h
 ·cases h;refine Zu hx hy hd fun w=>?_;simp [eqGuard,binOp,hr]
 ·cases h;refine Zu hx hy hd fun w=>?_;simp [eqGuard,binOp,hr]
 ·cases h
theorem Qte (c n:Nat):(Qxx (c <<< n)).toNat=c * 2 ^ n % 4294967296:=by
 rw [Qxs,Nat.shiftLeft_eq]
theorem QpE {op:BinOp} {u v:EV} {C:List Prop} {z:EV} (h:shF op u v=some (C,z)) (hC:∀ c∈C,c) (hd:Qxp d n=true)
  (hx:Gv (st.ev x) u.av) (hy:Gv (st.ev y) v.av):Qd P E kp n ops ⟨some d,.binOp op T x y T',ty,ps,af,none⟩ st (st.put d z.av):=by
 unfold shF at h
 cases hv:YV v with
 | none=>rw [hv] at h;cases h
 | some p =>
  obtain ⟨k,j⟩:=p;rw [hv] at h;simp only at h;have hy':Gv (st.ev y) (.p (.v (.int k j))):=fun w Pub φ q hq=>VQ hv _ _ _ _ (hy _ _ _ _ hq)
  cases hu:YA u with
  | some c =>
   rw [hu] at h;simp only at h;have hx':Gv (st.ev x) (.p (Qhy c)):=fun w Pub φ q hq=>VR hu _ _ _ _ (hx _ _ _ _ hq);split at h
   ·cases h;have h1:=hC _ (Qxu.2 rfl);obtain ⟨m,rfl⟩:=Qxr h1.1;have hm:m<=32:=by omega
    refine QjS hx' hy' hd (decide_eq_false (by omega)) rfl ?_;rw [IntKind.wrap_u32];show _=(((Qxx (c.toNat <<< m)).toNat:Nat):Int);rw [Qte];have e:(min ((m:Int)).toNat (IntKind.u32.bits))=m:=by show min m 32=m;omega
    rw [e];simp
   ·cases h;have h1:=hC _ (Qxu.2 rfl);obtain ⟨m,rfl⟩:=Qxr h1.1;have hm:m<=32:=by omega
    refine (QjR hx' hy' hd (decide_eq_false (by omega)) rfl).cast (Wq ?_);have e:(min ((m:Int)).toNat (IntKind.u32.bits))=m:=by show min m 32=m;omega
    rw [e];show AV.p (.v (.int .u32 _))=AV.p (.v (.int .u32 ((Qxx (c.toNat >>> m)).toNat:Int)))
    have e2:(Qxx (c.toNat >>> m)).toNat=c.toNat / 2 ^ m:=by
     have:=c.toNat_lt;have h3:c.toNat / 2 ^ m<=c.toNat:=Nat.div_le_self _ _;rw [Qxs,Nat.shiftRight_eq_div_pow];exact Qxz (by omega)
    rw [e2];simp
   ·cases h
  | none =>
   rw [hu] at h;simp only at h
   cases hi:ZV u with
   | none =>
    rw [hi] at h;simp only at h
    cases h6:XL u with
    | none=>rw [h6] at h;cases h
    | some c =>
     rw [h6] at h;simp only at h;have hx':Gv (st.ev x) (.p (Qj6 c)):=fun w Pub φ q hq=>VS h6 _ _ _ _ (hx _ _ _ _ hq);split at h
     ·cases h;have h1:=hC _ (Qxu.2 rfl);obtain ⟨m,rfl⟩:=Qxr h1;refine QjS hx' hy' hd (decide_eq_false (by omega)) rfl ?_;rw [IntKind.wrap_u64];show _=(((QxB (c.toNat * 2 ^ min ((m:Int)).toNat 64)).toNat:Nat):Int);rw [Qxt];have e:(min ((m:Int)).toNat (IntKind.u64.bits))=min ((m:Int)).toNat 64:=rfl;rw [e];simp
     ·cases h;have h1:=hC _ (Qxu.2 rfl);obtain ⟨m,rfl⟩:=Qxr h1;refine (QjR hx' hy' hd (decide_eq_false (by omega)) rfl).cast (Wq ?_);have e:(min ((m:Int)).toNat (IntKind.u64.bits))=min ((m:Int)).toNat 64:=rfl;rw [e];show AV.p (.v (.int .u64 _))=AV.p (.v (.int .u64 ((QxB (c.toNat / 2 ^ min ((m:Int)).toNat 64)).toNat:Int)))
      have e2:(QxB (c.toNat / 2 ^ min ((m:Int)).toNat 64)).toNat=c.toNat / 2 ^ min ((m:Int)).toNat 64:=by
       have:=c.toNat_lt;have h3:c.toNat / 2 ^ min ((m:Int)).toNat 64<=c.toNat:=Nat.div_le_self _ _;rw [Qxt];exact Qxz (by omega)
      rw [e2];simp
     ·cases h
   | some i =>
    rw [hi] at h;simp only at h;have e:=ZW hi;subst e;split at h
    ·cases h;have h1:=hC _ (Qxu.2 rfl);obtain ⟨m,rfl⟩:=Qxr h1.1;have hm:m<=63:=by omega
     refine (QjR hx hy' hd (decide_eq_false (by omega)) rfl).cast (Wq ?_);have e:(min ((m:Int)).toNat (IntKind.i64.bits))=m:=by show min m 64=m;omega
     rw [e];rfl
    ·cases h;have h1:=hC _ (Qxu.2 rfl);obtain ⟨m,rfl⟩:=Qxr h1.1;have hm:m<=63:=by omega
     refine (QjS hx hy' hd (decide_eq_false (by omega)) rfl rfl).cast (Wq ?_);have e:(min ((m:Int)).toNat (IntKind.i64.bits))=m:=by show min m 64=m;omega
     rw [e];rfl
    ·cases h
theorem Gv.trans {x y z:AV} (h:Gv x y) (k:Gv y z):Gv x z:=fun w Pub φ u hu=>k _ _ _ _ (h _ _ _ _ hu)
theorem Qtf {op:BinOp} {wr:Bool} {u v:EV} {C:List Prop} {z:EV} (h:binF wr op u v=some (C,z)) (hC:∀ c∈C,c) (hd:Qxp d n=true)
  (hx:Gv (st.ev x) u.av) (hy:Gv (st.ev y) v.av):Qd P E kp n ops ⟨some d,.binOp op T x y T',ty,ps,af,none⟩ st (st.put d z.av):=by
 unfold binF at h;split at h
 ·exact QpE h hC hd hx hy
 ·exact QpE h hC hd hx hy
 ·split at h
  ·next i j h1 h2 =>
   have e1:=ZW h1;have e2:=ZW h2;subst e1 e2;exact Qta h hC hd hx hy
  ·split at h
   ·next i j h1 h2 =>
    cases hz:u8F i j op with
    | none=>rw [hz] at h;cases h
    | some z'=>rw [hz] at h;cases h;exact Qv3 hz hd (hx.trans (Jh h1)) (hy.trans (Jh h2))
   ·split at h
    ·next i j h1 h2 =>
     cases hz:Qs4 i j op with
     | none=>rw [hz] at h;cases h
     | some z'=>rw [hz] at h;cases h;exact Qtb hz hd (hx.trans (VR h1)) (hy.trans (VR h2))
    ·split at h
     ·next i j h1 h2 =>
      have e1:=Zs h1;have e2:=Zs h2;subst e1 e2;exact Qtd h hC hd hx hy
     ·split at h
      ·next i j h1 h2 =>
       cases hz:Qs5 i j op with
       | none=>rw [hz] at h;cases h
       | some z'=>rw [hz] at h;cases h;exact Qtc hz hd (hx.trans (VS h1)) (hy.trans (VS h2))
      ·cases h
theorem QpF {k':IntKind} {u z:EV} {dd:TypeDesc} (h:Qpw k' u=some z) (h1:P.underlying T=some dd) (h2:P.underlying T'=some (.int k')) (hd:Qxp d n=true) (hx:Gv (st.ev x) u.av) :
  Qd P E kp n ops ⟨some d,.convert T T' x,ty,ps,af,none⟩ st (st.put d z.av):=by
 have go:∀ {k:IntKind} {i r:Int},Gv u.av (.p (.v (.int k i)))->k'.wrap i=r->z.av=.p (.v (.int k' r))->Qd P E kp n ops ⟨some d,.convert T T' x,ty,ps,af,none⟩ st (st.put d z.av):=fun hg hr hz=>by
  rw [hz];exact Qnl (hx.trans hg) h1 h2 hr hd
 have w64':∀ i:Int,IntKind.u64.wrap i=(((QxB (i % 18446744073709551616).toNat).toNat:Nat):Int):=fun i=>by
  rw [IntKind.wrap_u64,Qxt];omega
 have w32:∀ i:Int,IntKind.u32.wrap i=(((Qxx (i % 4294967296).toNat).toNat:Nat):Int):=fun i=>by
  rw [IntKind.wrap_u32,Qxs];omega
 unfold Qpw at h;split at h
 ·split at h
  ·next c=>cases h;exact go (k:=.u32) (i:=(c.toNat:Int)) Gv.r (by
    rw [u8w];unfold QfW;have:QxD ((c.toNat:Int) % 256).toNat=QxD c.toNat:=QxA.1 (by rw [Qxw,Qxw];omega)
    rw [this]) rfl
  ·next c=>cases h;exact go (k:=.u64) (i:=(c.toNat:Int)) Gv.r (by
    rw [u8w];unfold QfW;have:QxD ((c.toNat:Int) % 256).toNat=QxD c.toNat:=QxA.1 (by rw [Qxw,Qxw];omega)
    rw [this]) rfl
  ·next c=>cases h;exact go (k:=.u8) (i:=(c.toNat:Int)) Gv.r (by rw [u8w,Qcq]) rfl
  ·next i=>cases h;exact go Gv.r (u8w i) rfl
  ·cases h
 ·split at h
  ·next c=>cases h;exact go (k:=.u8) (i:=(c.toNat:Int)) Gv.r (by
    have:=c.toNat_lt
    rw [IntKind.wrap_u32,Qxs];omega) rfl
  ·next c=>cases h;exact go (k:=.u32) (i:=(c.toNat:Int)) Gv.r (Qe3 c) rfl
  ·next c=>cases h;exact go (k:=.u64) (i:=(c.toNat:Int)) Gv.r (by
    rw [IntKind.wrap_u32,Qxs];omega) rfl
  ·next i=>cases h;exact go Gv.r (w32 i) rfl
  ·cases h
 ·split at h
  ·next c=>cases h;exact go (k:=.u8) (i:=(c.toNat:Int)) Gv.r (by
    have:=c.toNat_lt
    rw [IntKind.wrap_u64,Qxt];omega) rfl
  ·next c=>cases h;exact go (k:=.u32) (i:=(c.toNat:Int)) Gv.r (by
    have:=c.toNat_lt
    rw [IntKind.wrap_u64,Qxt];omega) rfl
  ·next c=>cases h;exact go (k:=.u64) (i:=(c.toNat:Int)) Gv.r (Qvw c) rfl
  ·next i=>cases h;exact go Gv.r (w64' i) rfl
  ·cases h
 ·split at h
  ·next c=>cases h;exact go (k:=.u8) (i:=(c.toNat:Int)) Gv.r (u8i c) rfl
  ·next c=>cases h;exact go (k:=.u32) (i:=(c.toNat:Int)) Gv.r (by have:=c.toNat_lt;exact w64 (by omega) (by omega)) rfl
  ·next c=>cases h;exact go (k:=.u64) (i:=(c.toNat:Int)) Gv.r rfl rfl
  ·next i=>cases h;exact go Gv.r rfl rfl
  ·next i=>cases h;exact go Gv.r rfl rfl
  ·cases h
 ·split at h
  ·next c=>cases h;exact go (k:=.u8) (i:=(c.toNat:Int)) Gv.r rfl rfl
  ·next c=>cases h;exact go (k:=.u32) (i:=(c.toNat:Int)) Gv.r rfl rfl
  ·next i=>cases h;exact go Gv.r rfl rfl
  ·cases h
theorem Qtg {u z:EV} (h:notF u=some z) (hd:Qxp d n=true) (hx:Gv (st.ev x) u.av):Qd P E kp n ops ⟨some d,.unOp .xor T x,ty,ps,af,none⟩ st (st.put d z.av):=by
 unfold notF at h;split at h
 ·next c hc =>
  cases h;refine Qvu (hx.trans (VR hc)) ?_ hd;show IntKind.u32.wrap ((Qxo 32 4294967295 ^^^ Qxo 32 (c.toNat:Int)).toNat:Int)=((~~~c).toNat:Int)
  have e:(Qxo 32 4294967295 ^^^ Qxo 32 (c.toNat:Int))=(~~~c).toBitVec:=by
   rw [Qf8,QxO];show BitVec.allOnes 32 ^^^ _=_;rw [QxR]
  rw [e];exact Qe3 _
 ·split at h
  ·next c hc =>
   cases h;refine Qvu (hx.trans (VS hc)) ?_ hd;show IntKind.u64.wrap ((Qxo 64 18446744073709551615 ^^^ Qxo 64 (c.toNat:Int)).toNat:Int)=((~~~c).toNat:Int)
   have e:(Qxo 64 18446744073709551615 ^^^ Qxo 64 (c.toNat:Int))=(~~~c).toBitVec:=by
    rw [bv64,UInt64.toBitVec_not];show BitVec.allOnes 64 ^^^ _=_;rw [QxR]
   rw [e];exact Qvw _
  ·cases h
end
end
section
open Go.RowKit
theorem VT:∀ (n:Nat) (l:List EV),dpE n l=l.drop n
 | 0,l=>by simp [dpE]
 | n+1,[]=>by simp [dpE]
 | n+1,x::l=>by simp [dpE,VT n l]
theorem Qbw:∀ {n:Nat} {l m:List EV},tkE n l=some m->m=l.take n/\m.length=n
 | 0,l,m,h=>by unfold tkE at h;cases h;simp
 | n+1,[],m,h=>by unfold tkE at h;cases h
 | n+1,x::l,m,h=>by
  unfold tkE at h
  cases hq:tkE n l with
  | none=>rw [hq] at h;cases h
  | some q=>rw [hq] at h;cases h;obtain ⟨h1,h2⟩:=Qbw hq;simp [<- h1,h2]
theorem Xh:∀ (n:Nat) (l:List EV),Qdl n l=l[n]?
 | n,[]=>by simp [Qdl]
 | 0,x::l=>by simp [Qdl]
 | n+1,x::l=>by simp [Qdl,Xh n l]
theorem Qdo:∀ {o:Nat} {l xs m:List EV},ptE o l xs=some m->m=Qs l o xs/\o+xs.length<=max l.length o
 | o,l,[],m,h=>by
  have:m=l:=by cases o <;> cases l <;> simp [ptE] at h <;> simp [h]
  subst this;simp [Qs];omega
 | o,[],x::xs,m,h=>by cases o <;> simp [ptE] at h
 | 0,y::l,x::xs,m,h=>by
  unfold ptE at h
  cases hq:ptE 0 l xs with
  | none=>rw [hq] at h;cases h
  | some q =>
   rw [hq] at h;cases h;obtain ⟨h1,h2⟩:=Qdo hq
   have e:∀ (xs:List EV) (o:Nat) (a:EV) (l:List EV),Qs (a::l) (o+1) xs=a::Qs l o xs:=by
    intro xs
    induction xs with
    | nil=>intro o a l;rfl
    | cons z xs ih=>intro o a l;show Qs ((a::l).set (o+1) z) (o+1+1) xs=a::Qs (l.set o z) (o+1) xs;rw [QxS,ih]
   refine ⟨?_,by simp at h2 ⊢;omega⟩;show _=Qs ((y::l).set 0 x) (0+1) xs;rw [List.set_cons_zero,e,h1]
 | o+1,y::l,x::xs,m,h=>by
  unfold ptE at h
  cases hq:ptE o l (x::xs) with
  | none=>rw [hq] at h;cases h
  | some q =>
   rw [hq] at h;cases h;obtain ⟨h1,h2⟩:=Qdo hq
   have e:∀ (xs:List EV) (o:Nat) (a:EV) (l:List EV),Qs (a::l) (o+1) xs=a::Qs l o xs:=by
    intro xs
    induction xs with
    | nil=>intro o a l;rfl
    | cons z xs ih=>intro o a l;show Qs ((a::l).set (o+1) z) (o+1+1) xs=a::Qs (l.set o z) (o+1) xs;rw [QxS,ih]
   exact ⟨by rw [e,h1],by simp at h2 ⊢;omega⟩
theorem Qdp (n:Nat) (l:List EV):avL (l.drop n)=(avL l).drop n:=by rw [W2,W2,List.map_drop]
theorem Qdq (n:Nat) (l:List EV):avL (l.take n)=(avL l).take n:=by rw [W2,W2,List.map_take]
theorem Qx (l:List EV):(avL l).length=l.length:=by rw [W2,List.length_map]
theorem Qdr (n:Nat) (l:List EV):pvL (l.drop n)=(pvL l).drop n:=by rw [ZB,ZB,List.map_drop]
theorem Qds (n:Nat) (l:List EV):pvL (l.take n)=(pvL l).take n:=by rw [ZB,ZB,List.map_take]
theorem Qk (l:List EV):(pvL l).length=l.length:=by rw [ZB,List.length_map]
theorem Qau (l:List EV) (n:Nat):(avL l)[n]? = (l[n]?).map EV.av:=by rw [W2,QxC]
theorem Ji (l:List EV) (n:Nat):(pvL l)[n]? = (l[n]?).map EV.pv:=by rw [ZB,QxC]
theorem Qbx {α β:Type} (f:α->β):∀ (xs:List α) (o:Nat) (l:List α),(Qs l o xs).map f=Qs (l.map f) o (xs.map f)
 | [],o,l=>rfl
 | x::xs,o,l=>by
  show (Qs (l.set o x) (o+1) xs).map f=Qs ((l.map f).set o (f x)) (o+1) (xs.map f);rw [Qbx f xs,List.map_set]
theorem QlP (xs:List EV) (o:Nat) (l:List EV):avL (Qs l o xs)=Qs (avL l) o (avL xs):=by rw [W2,W2,W2,Qbx]
theorem Qth (xs:List EV) (o:Nat) (l:List EV):pvL (Qs l o xs)=Qs (pvL l) o (pvL xs):=by rw [ZB,ZB,ZB,Qbx]
theorem Qkg (l m:List EV):avL (l++m)=avL l++avL m:=by simp [W2]
theorem JS (l m:List EV):pvL (l++m)=pvL l++pvL m:=by simp [ZB]
theorem Qkh (x:EV) (h:ZN x=true):x.av.one=true:=by
 cases x with
 | rp t=>cases t <;> rfl
 | _=>simp [ZN] at h <;> simp [EV.av,EV.pv,AV.one,h,WS] <;> rfl
theorem ZC:∀ (l:List EV),QL l=true->WZ (avL l)=true
 | [],_=>rfl
 | x::xs,h=>by
  simp only [QL,Qxv] at h;simp only [avL,WZ,Qxv];exact ⟨Qkh x h.1,ZC xs h.2⟩
theorem QlQ (x:EV) (h:QL (csE x)=true):∃ y,Gv x.av y/\y.cs=avL (csE x):=by
 cases x with
 | agg l=>exact ⟨.agg (avL l),Gv.r,rfl⟩
 | tup l=>simp [csE,QL,ZN] at h
 | raw x=>simp [csE,QL,ZN] at h
 | cnd g x=>simp [csE,QL,ZN] at h
 | any=>simp [csE,QL,ZN] at h
 | az n f=>simp [csE,QL,ZN] at h
 | v u =>
  refine ⟨_,Gv.r,?_⟩;simp [csE,EV.av,AV.cs,avL]
 | rp t=>cases t <;> exact ⟨_,Gv.r,rfl⟩
 | _=>exact ⟨_,Gv.r,rfl⟩
section
variable {P:Program} {E:Env} {kp:List Nat} {n:Nat} {ops:Array Oper} {d:Nat} {ty:TypeId} {ps:String} {af:Array Edge}
theorem Qd.wk {o:Oper} {st st' st'':AS} (h:Qd P E kp n ops o st st') (k:Wk E kp n st' st''):Qd P E kp n ops o st st'':=fun a w K Q hs hK=>h a w K Q hs fun a' w' hs'=>hK a' w' (k a' w' hs')
theorem Qd.pre {o:Oper} {st st' st'':AS} (k:Wk E kp n st st') (h:Qd P E kp n ops o st' st''):Qd P E kp n ops o st st'':=fun a w K Q hs hK=>h a w K Q (k a w hs) hK
theorem Qv4 {st:AS} {d:Nat} {x y:AV} (h:Gv x y):Wk E kp n (st.put d x) (st.put d y):=by
 rintro a w ⟨φ,Pub,I,h0,hn,hsl⟩;refine ⟨φ,Pub,I,h0,hn,fun q=>?_⟩;have k:=hsl q;simp only [AS.put,Qb] at k ⊢;split
 ·next e=>rw [if_pos e] at k;exact h _ _ _ _ k
 ·next e=>rw [if_neg e] at k;exact k
theorem Qd.gv {o:Oper} {st st':AS} {d:Nat} {x y:AV} (h:Qd P E kp n ops o st (st'.put d x)) (k:Gv x y):Qd P E kp n ops o st (st'.put d y):=h.wk (Qv4 k)
structure Sub (vs:List (Nat×EV)) (bs:List (Nat×EB)) (st:ES):Prop where
 e:∀ x,Ql vs x=.any\/st.ev x=Ql vs x
 b:∀ r,ob_ bs r=.dead\/st.eb r=ob_ bs r
theorem Sub.v {vs:List (Nat×EV)} {bs:List (Nat×EB)} {st:ES} (S:Sub vs bs st) (x:Operand):Gv (st.as.ev x) (Ql vs x).av:=by
 rw [XJ];rcases S.e x with k | k
 ·rw [k];exact Gv.any
 ·rw [k];exact Gv.r
theorem Sub.eq {vs:List (Nat×EV)} {bs:List (Nat×EB)} {st:ES} (S:Sub vs bs st) {x:Operand} (h:Ql vs x≠.any):st.as.ev x=(Ql vs x).av:=by
 rw [XJ];rcases S.e x with k | k
 ·exact absurd k h
 ·rw [k]
theorem Sub.ob {vs:List (Nat×EV)} {bs:List (Nat×EB)} {st:ES} (S:Sub vs bs st) {r:Nat} {eb:EB} (h:ob_ bs r=eb) (hne:eb≠.dead):st.as.ob r=eb.ob:=by
 rw [Qpt];rcases S.b r with k | k
 ·rw [h] at k;exact absurd k hne
 ·rw [k,h]
def RS.app (R:RS) (st:ES):ES:=⟨R.sl++st.slots,R.hp++st.heap⟩
variable {tab:TT} {vs:List (Nat×EV)} {bs:List (Nat×EB)} {st:ES}
theorem QpG {ti:TI} {T:TypeId} {x:Operand} {r off:Nat} {cells:List EV} {t:TypeId} {C:List Prop} {y:EV} (hT:TIok P T ti) (h:Qbt ti true off cells=some (C,y)) (hd:Qxp d n=true) {st:AS}
  (hx:Gv (st.ev x) (.own r off)) (hl:st.ob r=.box (avL cells) t):Qd P E kp n ops ⟨some d,.load T x,ty,ps,af,none⟩ st (st.put d y.av):=by
 unfold Qbt at h
 cases ha:ti.agg with
 | true =>
  rw [ha] at h;simp only [cond_true] at h;split at h
  ·next l hq =>
   simp only [Bool.true_or,cond_true] at h;cases h;obtain ⟨h1,h2⟩:=Qbw hq;rw [VT] at h1;exact QcU hd hx (by rw [hT.agg,ha]) hT.sz hl (by rw [h1,Qdq,Qdp]) (by rw [Qx];exact h2)
  ·cases h
 | false =>
  rw [ha] at h;simp only [cond_false] at h;split at h
  ·next z hq =>
   simp only [Bool.true_or,cond_true] at h;cases h;rw [Xh] at hq;exact QeQ hd hx (by rw [hT.agg,ha]) hl (by rw [Qau,hq];rfl)
  ·cases h
theorem QhE {ti:TI} {T:TypeId} {x:Operand} {r off sz pub:Nat} {cells:List EV} {t:TypeId} {C:List Prop} {y:EV} (hT:TIok P T ti) (h:Qbt ti false off cells=some (C,y)) (hd:Qxp d n=true) {st:AS}
  (hx:Gv (st.ev x) (.own r off)) (hl:st.ob r=.row (pvL cells) t sz pub):Qd P E kp n ops ⟨some d,.load T x,ty,ps,af,none⟩ st (st.put d y.av):=by
 unfold Qbt at h
 cases ha:ti.agg with
 | true =>
  rw [ha] at h;simp only [cond_true] at h;split at h
  ·next l hq =>
   cases hs:shL l with
   | false=>rw [hs] at h;cases h
   | true =>
    rw [hs] at h;cases h;obtain ⟨h1,h2⟩:=Qbw hq;rw [VT] at h1;exact (QcV hd hx (by rw [hT.agg,ha]) hT.sz hl (l:=pvL l) (by rw [h1,Qds,Qdr]) (by rw [Qk];exact h2)).gv (Gv.sh' (x:=.agg l) hs)
  ·cases h
 | false =>
  rw [ha] at h;simp only [cond_false] at h;split at h
  ·next z hq =>
   cases hs:z.sh with
   | false=>rw [hs] at h;cases h
   | true =>
    rw [hs] at h;cases h;rw [Xh] at hq;exact (Qbf hd hx (by rw [hT.agg,ha]) hl (v:=y.pv) (by rw [Ji,hq];rfl)).gv (Gv.sh' hs)
  ·cases h
theorem Qti {ti:TI} {T:TypeId} {x:Operand} {off:Nat} {cells:List EV} {C:List Prop} {y:EV} (hT:TIok P T ti) (h:Qbt ti false off cells=some (C,y)) (hd:Qxp d n=true) {st:AS}
  (hx:Gv (st.ev x) (.p (.pp (pvL cells) off))):Qd P E kp n ops ⟨some d,.load T x,ty,ps,af,none⟩ st (st.put d y.av):=by
 unfold Qbt at h
 cases ha:ti.agg with
 | true =>
  rw [ha] at h;simp only [cond_true] at h;split at h
  ·next l hq =>
   cases hs:shL l with
   | false=>rw [hs] at h;cases h
   | true =>
    rw [hs] at h;cases h;obtain ⟨h1,h2⟩:=Qbw hq;rw [VT] at h1;exact (QeR hd hx (by rw [hT.agg,ha]) hT.sz (l:=pvL l) (by rw [h1,Qds,Qdr]) (by rw [Qk];exact h2)).gv (Gv.sh' (x:=.agg l) hs)
  ·cases h
 | false =>
  rw [ha] at h;simp only [cond_false] at h;split at h
  ·next z hq =>
   cases hs:z.sh with
   | false=>rw [hs] at h;cases h
   | true =>
    rw [hs] at h;cases h;rw [Xh] at hq;exact (QcW hd hx (by rw [hT.agg,ha]) (v:=y.pv) (by rw [Ji,hq];rfl)).gv (Gv.sh' hs)
  ·cases h
abbrev lzC (n sz:Nat) (f:Nat->Nat->EV):List PV:=(Qxq n).flatMap fun i=>(Qxq sz).map fun j=>(f i j).pv
theorem Jj (f:Nat->Nat->EV) (i:Nat):∀ k j,(lzE f i k j).length=k
 | 0,_=>rfl
 | k+1,j=>by simp [lzE,Jj f i k]
theorem Qgb (f:Nat->Nat->EV) (i:Nat):∀ k j q,q < k->(lzE f i k j)[q]? = some (f i (j+q))
 | 0,_,_,h=>by omega
 | k+1,j,0,_=>by simp [lzE]
 | k+1,j,q+1,h=>by
  simp only [lzE,List.getElem?_cons_succ];rw [Qgb f i k (j+1) q (by omega),show j+1+q=j+(q+1) from by omega]
theorem QlR {m sz:Nat} {f:Nat->Nat->EV} {i off s:Nat} (hi:i < m) (ho:off+s<=sz):((lzC m sz f).drop (i * sz+off)).take s=pvL (lzE f i s off):=by
 apply List.ext_getElem?;intro q;rw [QxT];by_cases h:q < s
 ·rw [if_pos h,QxU,show i * sz+off+q=i * sz+(off+q) from by omega,Ys m sz f hi (by omega),Ji,Qgb f i s off q h];rfl
 ·rw [if_neg h,QxM (by rw [Qk,Jj];omega)]
theorem Qtj {ti:TI} {T:TypeId} {x:Operand} {m sz i off:Nat} {f:Nat->Nat->EV} {C:List Prop} {y:EV} (hT:TIok P T ti) (h:Qnx ti m sz f i off=some (C,y)) (hC:∀ c∈C,c) (hd:Qxp d n=true) {st:AS}
  (hx:Gv (st.ev x) (.p (.pp (lzC m sz f) (i * sz+off)))):Qd P E kp n ops ⟨some d,.load T x,ty,ps,af,none⟩ st (st.put d y.av):=by
 unfold Qnx at h
 cases hc:Nat.ble (off+ti.sz) sz && Nat.ble 1 ti.sz with
 | false=>rw [hc] at h;cases h
 | true =>
  rw [hc] at h;simp only [cond_true] at h;simp only [Qxv,Nat.ble_eq] at hc
  cases ha:ti.agg with
  | true =>
   rw [ha] at h;simp only [cond_true] at h
   cases hs:shL (lzE f i ti.sz off) with
   | false=>rw [hs] at h;cases h
   | true =>
    rw [hs] at h;cases h;have hi:=hC (i < m) (by simp);exact (QeR hd hx (by rw [hT.agg,ha]) hT.sz (l:=pvL (lzE f i ti.sz off)) (QlR hi hc.1) (by rw [Qk,Jj])).gv (Gv.sh' (x:=.agg _) hs)
  | false =>
   rw [ha] at h;simp only [cond_false] at h
   cases hs:(f i off).sh with
   | false=>rw [hs] at h;cases h
   | true =>
    rw [hs] at h;cases h;have hi:=hC (i < m) (by simp);exact (QcW hd hx (by rw [hT.agg,ha]) (v:=(f i off).pv) (Ys m sz f hi (by omega))).gv (Gv.sh' hs)
theorem QpH {ti:TI} {T:TypeId} {x:Operand} {r m sz z pub i off:Nat} {t:TypeId} {f:Nat->Nat->EV} {C:List Prop} {y:EV} (hT:TIok P T ti) (h:Qnx ti m sz f i off=some (C,y)) (hC:∀ c∈C,c) (hd:Qxp d n=true) {st:AS}
  (hx:Gv (st.ev x) (.own r (i * sz+off))) (hl:st.ob r=.row (lzC m sz f) t z pub):Qd P E kp n ops ⟨some d,.load T x,ty,ps,af,none⟩ st (st.put d y.av):=by
 unfold Qnx at h
 cases hc:Nat.ble (off+ti.sz) sz && Nat.ble 1 ti.sz with
 | false=>rw [hc] at h;cases h
 | true =>
  rw [hc] at h;simp only [cond_true] at h;simp only [Qxv,Nat.ble_eq] at hc
  cases ha:ti.agg with
  | true =>
   rw [ha] at h;simp only [cond_true] at h
   cases hs:shL (lzE f i ti.sz off) with
   | false=>rw [hs] at h;cases h
   | true =>
    rw [hs] at h;cases h;have hi:=hC (i < m) (by simp);exact (QcV hd hx (by rw [hT.agg,ha]) hT.sz hl (l:=pvL (lzE f i ti.sz off)) (QlR hi hc.1) (by rw [Qk,Jj])).gv (Gv.sh' (x:=.agg _) hs)
  | false =>
   rw [ha] at h;simp only [cond_false] at h
   cases hs:(f i off).sh with
   | false=>rw [hs] at h;cases h
   | true =>
    rw [hs] at h;cases h;have hi:=hC (i < m) (by simp);exact (Qbf hd hx (by rw [hT.agg,ha]) hl (v:=(f i off).pv) (Ys m sz f hi (by omega))).gv (Gv.sh' hs)
abbrev azC (n:Nat) (f:Nat->EV):List PV:=(Qxq n).map fun i=>(f i).pv
theorem Qgc {m i:Nat} {f:Nat->EV} (h:i < m):(azC m f)[i]? = some (f i).pv:=by simp [azC,h]
theorem Qgd {α:Type} (n sz:Nat) (F:Nat->Nat->α) {i j:Nat} (hi:i < n) (hj:j < sz):((Qxq n).flatMap fun i=>(Qxq sz).map fun j=>F i j)[i * sz+j]? = some (F i j):=by
 induction n with
 | zero=>omega
 | succ n ih =>
  rw [QxK,QxI]
  have hl:((Qxq n).flatMap fun i=>(Qxq sz).map fun j=>F i j).length=n * sz:=by
   clear ih hi
   induction n with
   | zero=>simp
   | succ n ih=>rw [QxK,QxI,QxV,ih];simp [QxW]
  by_cases h:i < n
  ·rw [List.getElem?_append_left (by rw [hl];calc i * sz+j < i * sz+sz:=by omega
                         _=(i+1) * sz:=by rw [QxW]
                         _<=n * sz:=Nat.mul_le_mul_right _ h)]
   exact ih h
  ·obtain rfl:i=n:=by omega
   rw [List.getElem?_append_right (by rw [hl];omega),hl];simp [show i * sz+j - i * sz=j from by omega,hj]
theorem Z9 {α:Type} (n sz:Nat) (F:Nat->Nat->α):((Qxq n).flatMap fun i=>(Qxq sz).map fun j=>F i j).length=n * sz:=by
 induction n with
 | zero=>simp
 | succ n ih=>rw [QxK,QxI,QxV,ih];simp [QxW]
theorem JT {α:Type} {n sz:Nat} {f g:Nat->Nat->α} (h:∀ i,i < n -> ∀ j,j < sz->f i j=g i j):((Qxq n).flatMap fun i=>(Qxq sz).map fun j=>f i j)=(Qxq n).flatMap fun i=>(Qxq sz).map fun j=>g i j:=by
 rw [List.flatMap_def,List.flatMap_def];congr 1;exact QxP fun i hi=>QxP fun j hj=>h i (List.mem_range.1 hi) j (List.mem_range.1 hj)
abbrev avC (n sz:Nat) (f:Nat->Nat->EV):List AV:=(Qxq n).flatMap fun i=>(Qxq sz).map fun j=>(f i j).av
theorem Qtk {m sz:Nat} {f:Nat->Nat->EV} {i off s:Nat} (hi:i < m) (ho:off+s<=sz):((avC m sz f).drop (i * sz+off)).take s=avL (lzE f i s off):=by
 apply List.ext_getElem?;intro q;rw [QxT,W2,QxC];by_cases h:q < s
 ·rw [if_pos h,QxU,show i * sz+off+q=i * sz+(off+q) from by omega,Qgd m sz (fun a b=>(f a b).av) hi (by omega),Qgb f i s off q h];rfl
 ·rw [if_neg h,QxM (by rw [Jj];omega)];rfl
theorem QpI {ns:List Nat} {x y:EV} (h:mp1 ns x=some y) (w:World) (Pub:Nat->Nat->Prop) (φ:Qi) (u:Value) (k:RA w Pub (loc φ ns) x.av u):RA w Pub φ y.av u:=by
 unfold mp1 at h;split at h
 ·next q m =>
  split at h
  ·next r hr =>
   cases h;unfold EV.av RA at k ⊢;rw [Jg hr] at k;exact k
  ·cases h
 ·obtain ⟨hs,h⟩:=QA h;cases h;exact (XK _ u hs).2 ((XK _ u hs).1 k)
theorem QpJ {ns:List Nat}:∀ {l l':List EV},mpL ns l=some l' -> ∀ (w:World) (Pub:Nat->Nat->Prop) (φ:Qi) (us:List Value),RAs w Pub (loc φ ns) (avL l) us->RAs w Pub φ (avL l') us
 | [],l',h,w,Pub,φ,us,k=>by
  simp only [mpL] at h;cases h;unfold avL RAs at k ⊢;exact k
 | x::xs,l',h,w,Pub,φ,us,k=>by
  simp only [mpL] at h;split at h
  ·next y hy =>
   split at h
   ·next l hl =>
    cases h;unfold avL RAs at k ⊢;obtain ⟨u,vs,e,k1,k2⟩:=k;exact ⟨u,vs,e,QpI hy _ _ _ _ k1,QpJ hl _ _ _ _ k2⟩
   ·cases h
  ·cases h
theorem Qtl {ti:TI} {T:TypeId} {x:Operand} {r m sz i off:Nat} {t:TypeId} {ns:List Nat} {f:Nat->Nat->EV} {C:List Prop} {y:EV} (hT:TIok P T ti) (h:getA ti m sz f ns i off=some (C,y)) (hC:∀ c∈C,c) (hd:Qxp d n=true) {st:AS}
  (hx:Gv (st.ev x) (.own r (i * sz+off))) (hl:st.ob r=.ra (avC m sz f) t sz ns):Qd P E kp n ops ⟨some d,.load T x,ty,ps,af,none⟩ st (st.put d y.av):=by
 unfold getA at h;obtain ⟨hc,h⟩:=QA h;simp only [Qxv,Nat.ble_eq] at hc
 cases ha:ti.agg with
 | true =>
  rw [ha] at h;simp only [cond_true] at h;split at h
  ·next l hs =>
   cases h;have hi:=hC (i < m) (by simp);exact Qnu hd hx (by rw [hT.agg,ha]) hT.sz hl (l:=avL (lzE f i ti.sz off)) (Qtk hi hc.1) (by rw [Qx,Jj]) (QpJ hs)
  ·cases h
 | false =>
  rw [ha] at h;simp only [cond_false] at h;split at h
  ·next y' hs =>
   cases h;have hi:=hC (i < m) (by simp);exact Qps hd hx (by rw [hT.agg,ha]) hl (v:=(f i off).av) (Qgd m sz (fun a b=>(f a b).av) hi (by omega)) (QpI hs)
  ·cases h
theorem QpK {T:TypeId} {x:Operand} {u y:EV} {C:List Prop} (hP:tab.ok P) (S:Sub vs bs st) (h:Qpy tab bs T u=some (C,y)) (hC:∀ c∈C,c) (hd:Qxp d n=true) (hx:Gv (st.as.ev x) u.av) :
  Qd P E kp n ops ⟨some d,.load T x,ty,ps,af,none⟩ st.as (st.as.put d y.av):=by
 unfold Qpy at h
 cases hti:tab.find T with
 | none=>rw [hti] at h;cases h
 | some ti =>
  rw [hti] at h;have hT:=TT.find_ok hP hti;simp only at h;split at h
  ·split at h
   ·next hb=>exact QpG hT h hd hx (S.ob hb (by simp))
   ·next hb=>exact QhE hT h hd hx (S.ob hb (by simp))
   ·next m f t hb =>
    have hob:st.as.ob _=.box ((azC m f).map AV.p) t:=S.ob hb (by simp)
    cases ha:ti.agg with
    | true =>
     rw [ha] at h;simp only [cond_true] at h;obtain ⟨hc,h⟩:=QA h;cases h;simp only [Qxv] at hc;have e1:=Qc hc.1;have e2:=Qc hc.2;subst e1;refine (QcU (l:=(azC m f).map AV.p) hd hx (by rw [hT.agg,ha]) hT.sz hob ?_ ?_).gv Gv.agg
     ·rw [e2,List.drop_zero,QxE (by simp)]
     ·simp [e2]
    | false =>
     rw [ha] at h;simp only [cond_false] at h;obtain ⟨hs,h⟩:=QA h
     ·cases h;have hi:=hC _ (Qxu.2 rfl);exact (QeQ hd hx (by rw [hT.agg,ha]) hob (v:=.p (f _).pv) (by rw [QxC,Qgc hi];rfl)).gv (Gv.sh' hs)
   ·cases h
  ·next r s i off =>
   split at h
   ·next l t pub hb =>
    cases ha:ti.agg with
    | true=>rw [ha] at h;cases h
    | false =>
     rw [ha] at h;simp only [cond_false] at h
     cases hc:Nat.beq s 1 && Nat.beq off 0 with
     | false=>rw [hc] at h;cases h
     | true =>
      rw [hc] at h;cases h;simp only [Qxv] at hc;have e1:=Qc hc.1;have e2:=Qc hc.2;subst e1 e2;have hi:=hC (i < l.length) (by simp);refine Qhl hd (off:=i) ?_ (by rw [hT.agg,ha]) (S.ob hb (by simp)) hi;simpa [EV.av] using hx
   ·next hb =>
    cases hc:Nat.beq s _ with
    | false=>rw [hc] at h;cases h
    | true =>
     rw [hc] at h;simp only [cond_true] at h;have e1:=Qc hc;subst e1;exact QpH hT h hC hd hx (S.ob hb (by simp))
   ·next hb=>exact QhE hT h hd hx (S.ob hb (by simp))
   ·next hb =>
    obtain ⟨hc,h⟩:=QA h;have e1:=Qc hc;subst e1;exact Qtl hT h hC hd hx (S.ob hb (by simp))
   ·cases h
  ·exact Qti hT h hd hx
  ·next l i =>
   cases ha:ti.agg with
   | true=>rw [ha] at h;cases h
   | false =>
    rw [ha] at h;cases h;have hi:=hC (i < l.length) (by simp);exact QjY hd hx (by rw [hT.agg,ha]) hi
  ·exact Qtj hT h hC hd hx
  ·cases h
end
end
section
open Go.RowKit
section
variable {P:Program} {E:Env} {kp:List Nat} {n:Nat} {ops:Array Oper} {st:AS} {d:Nat} {ty:TypeId} {ps:String} {af:Array Edge}
theorem Qtm {T e:TypeId} {s m r:Nat} {x lo:Operand} {k:IntKind} {i:Int} (hx:Gv (st.ev x) (.osl r m)) (hT:X8 P T=some (e,s)) (hlo:Gv (st.ev lo) (.p (.v (.int k i)))) (h0:0<=i) (h1:i<=m) (hd:Qxp d n=true) :
  Qd P E kp n ops ⟨some d,.slice T x (some lo) none none,ty,ps,af,none⟩ st (st.put d (.oss r i.toNat (m - i.toNat) s)) :=
 Qw _ rfl rfl hd fun a w φ Pub I hR=>by
  have h:=hx _ _ _ _ (hR x);unfold RA at h;have hu:=(Zv hT).1;have hel:=Qai hT;have hu':P.underlying T=some (.slice (P.elem T)):=by rw [hel];exact hu
  rcases h with ⟨b,c,e0,e1,e2⟩ | ⟨e0,e2,e1⟩
  ·refine ⟨sliced (some ⟨b,0,none⟩) i.toNat m c s,?_,?_⟩
   ·simp only [execOp,e1,QxG,QxH,hlo.v (hR lo)];rw [Sem.run_bind,run_sliceAt_slice (w:=w) T _ _ _ _ hu',run_slice_l (w:=w) T (some ⟨b,0,none⟩) m c hu' k i h0 h1,hel,Qp (Zv hT).2];rfl
   ·unfold RA sliced;by_cases hc:c=i.toNat
    ·rw [if_pos hc];exact .inl ⟨b,c,0,c - i.toNat,e0,rfl,fun q=>by omega,by omega,by omega⟩
    ·rw [if_neg hc];exact .inl ⟨b,c,0+i.toNat * s,c - i.toNat,e0,by simp [Addr.add_mid],fun q=>Nat.zero_add _,by omega,by omega⟩
  ·subst e2;refine ⟨sliced none i.toNat 0 0 s,?_,?_⟩
   ·simp only [execOp,e1,QxG,QxH,hlo.v (hR lo)];rw [Sem.run_bind,run_sliceAt_slice (w:=w) T _ _ _ _ hu',run_slice_l (w:=w) T none 0 0 hu' k i h0 h1,hel,Qp (Zv hT).2];rfl
   ·unfold RA sliced;have:i.toNat=0:=by omega
    rw [this];exact .inr ⟨e0,rfl,rfl,rfl⟩
theorem QhF (r k:Nat) {sz pub:Nat} {cells:List PV} {t:TypeId} (hl:st.ob r=.row cells t sz pub) (hp:pub<=(cells.take k).length):Wk E kp n st ⟨st.slots,(r,.row (cells.take k) t sz pub)::st.heap⟩:=by
 rintro a w ⟨φ,Pub,I,h0,hn,hsl⟩;have hl':look OB.dead st.heap r=.row cells t sz pub:=hl;have hlk:∀ q,look OB.dead ((r,OB.row (cells.take k) t sz pub)::st.heap) q=if r=q then .row (cells.take k) t sz pub else look OB.dead st.heap q:=fun q=>Qb ..
 have hal:∀ q,(look OB.dead ((r,OB.row (cells.take k) t sz pub)::st.heap) q).alive=true->(look OB.dead st.heap q).alive=true:=fun q hq=>by
  rw [hlk] at hq;split at hq
  ·next e=>subst e;rw [hl'];rfl
  ·exact hq
 refine ⟨φ,Pub,I.next rfl rfl rfl (QxX _) (fun _ _ _=>rfl) (Adv.refl _ _) (fun _ _ hp=>.inl hp) I.publ (fun q hq=>?_) (fun q b c hq=>I.mine q b c (hal q hq)) (fun q q' b c c' hq hq'=>I.inj q q' b c c' (hal q hq) (hal q' hq')) (fun _ _=>rfl),h0,hn,hsl⟩;rw [hlk];split
 ·next e =>
  subst e;have kk:=I.own r;rw [hl'] at kk;rcases kk with ⟨k0,k1⟩ | ⟨b,c,cur,fr,k1,k2,k3,k4,k5,k6,k7,k8⟩
  ·exact .inl ⟨k0,by rw [k1];simp⟩
  ·have hle:(cells.take k).length<=cells.length:=by rw [List.length_take];omega
   have htt:(cur.toList.take cells.length).take (cells.take k).length=cur.toList.take (cells.take k).length:=by rw [List.take_take,Nat.min_eq_left hle]
   have e3:cells.take k=cells.take (cells.take k).length:=by
    rw [List.length_take];rcases Nat.le_total k cells.length with q | q
    ·rw [Nat.min_eq_left q]
    ·rw [Nat.min_eq_right q,QxE q,QxE (QxX _)]
   refine .inr ⟨b,c,cur,fr,k1,k2,k3,k4,by omega,?_,fun u hu=>k7 u ?_,fun i hi=>?_⟩
   ·have:=Qab (cells.take k).length k6;rw [htt] at this;rw [<- e3] at this;exact this
   ·rw [<- htt] at hu;exact List.mem_of_mem_take hu
   ·have:=k8 i hi;omega
 ·exact I.own q
theorem QhG {w:World} {Pub:Nat->Nat->Prop} {φ:Qi} {x':AV}:∀ (l:List AV) (vs:List Value) (i:Nat),RAs w Pub φ l vs->(∀ v,vs[i]? = some v->RA w Pub φ x' v)->RAs w Pub φ (l.set i x') vs
 | [],vs,i,h,_=>h
 | x::l,vs,0,h,hx=>by
  unfold RAs at h;obtain ⟨u,us,rfl,h1,h2⟩:=h;show RAs w Pub φ (x'::l) (u::us);unfold RAs;exact ⟨u,us,rfl,hx u rfl,h2⟩
 | x::l,vs,i+1,h,hx=>by
  unfold RAs at h;obtain ⟨u,us,rfl,h1,h2⟩:=h;show RAs w Pub φ (x::l.set i x') (u::us);unfold RAs;exact ⟨u,us,rfl,h1,QhG l us i h2 fun v hv=>hx v hv⟩
theorem QpL {w:World} {Pub:Nat->Nat->Prop} {φ:Qi} {x:AV}:∀ (l:List AV) (vs:List Value) (i:Nat),RAs w Pub φ l vs->l[i]? = some x->∃ v,vs[i]? = some v/\RA w Pub φ x v
 | [],vs,i,h,e=>by cases e
 | y::l,vs,0,h,e=>by
  unfold RAs at h;obtain ⟨u,us,rfl,h1,h2⟩:=h;cases e;exact ⟨u,rfl,h1⟩
 | y::l,vs,i+1,h,e=>by
  unfold RAs at h;obtain ⟨u,us,rfl,h1,h2⟩:=h;obtain ⟨v,k1,k2⟩:=QpL l us i h2 e;exact ⟨v,k1,k2⟩
theorem Qtn (r N i:Nat) {cells:List AV} {tB t:TypeId} {sz:Nat} {x:AV} (hl:st.ob r=.box cells tB) (hc:cells[i]? = some x) (hx:Gv x (.p (.v (.slice none 0 0)))) (hf:st.free kp N=true) (hne:N≠r) :
  Wk E kp n st ⟨st.slots,(r,.box (cells.set i (.osl N 0)) tB)::(N,.row [] t sz 0)::st.heap⟩:=by
 rintro a w ⟨φ,Pub,I,h0,hn,hsl⟩;obtain ⟨f1,f2,f3,f4⟩:=Qu hf;have I1:=I.nilRow f1 f2 f4 t sz 0;have hl':look OB.dead st.heap r=.box cells tB:=hl;have hlk:∀ q,look OB.dead ((r,OB.box (cells.set i (.osl N 0)) tB)::(N,OB.row [] t sz 0)::st.heap) q=if r=q then .box (cells.set i (.osl N 0)) tB else look OB.dead ((N,OB.row [] t sz 0)::st.heap) q:=fun q=>Qb ..
 have hr:look OB.dead ((N,OB.row [] t sz 0)::st.heap) r=.box cells tB:=by rw [Qb,if_neg hne];exact hl'
 have hal:∀ q,(look OB.dead ((r,OB.box (cells.set i (.osl N 0)) tB)::(N,OB.row [] t sz 0)::st.heap) q).alive=true->(look OB.dead ((N,OB.row [] t sz 0)::st.heap) q).alive=true:=fun q hq=>by
  rw [hlk] at hq;split at hq
  ·next e=>subst e;rw [hr];rfl
  ·exact hq
 refine ⟨_,Pub,I1.next rfl rfl rfl (QxX _) (fun _ _ _=>rfl) (Adv.refl _ _) (fun _ _ hp=>.inl hp) I1.publ (fun q hq=>?_) (fun q b c hq=>I1.mine q b c (hal q hq)) (fun q q' b c c' hq hq'=>I1.inj q q' b c c' (hal q hq) (hal q' hq')) (fun _ _=>rfl),h0,hn,fun q=>Z6 (Adv.refl _ _) (Wf f3) (hsl q)⟩;rw [hlk];split
 ·next e =>
  subst e;have k:=I1.own r;rw [hr] at k;obtain ⟨b,cur,k1,k2,k3,k4,k5⟩:=k;refine ⟨b,cur,k1,k2,QhG _ _ _ k3 fun v hv=>?_,k4,k5⟩;obtain ⟨v',e1,e2⟩:=QpL _ _ i k3 hc;rw [hv] at e1;cases e1;have:=hx _ _ _ _ e2;unfold RA RP at this;unfold RA;exact .inr ⟨if_pos rfl,rfl,this⟩
 ·exact I1.own q
theorem Qto {T e:TypeId} {s m r sz pub:Nat} {x hi:Operand} {k:IntKind} {j:Int} {cells:List PV} {t:TypeId} (hx:Gv (st.ev x) (.osl r m)) (hl:st.ob r=.row cells t sz pub) (hT:X8 P T=some (e,s)) (hhi:Gv (st.ev hi) (.p (.v (.int k j)))) (h0:0<=j) (h1:j<=m)
  (hp:pub<=(cells.take (j.toNat * s)).length) (hd:Qxp d n=true) :
  Qd P E kp n ops ⟨some d,.slice T x none (some hi) none,ty,ps,af,none⟩ st ⟨(d,.osl r j.toNat)::st.slots,(r,.row (cells.take (j.toNat * s)) t sz pub)::st.heap⟩:=by
 refine Qd.wk (st':=st.put d (.osl r j.toNat)) ?_ (QhF (st:=st.put d (.osl r j.toNat)) r (j.toNat * s) hl hp)
 exact Qw _ rfl rfl hd fun a w φ Pub I hR=>by
  have h:=hx _ _ _ _ (hR x);unfold RA at h;have hu:=(Zv hT).1;have hel:=Qai hT;have hu':P.underlying T=some (.slice (P.elem T)):=by rw [hel];exact hu
  rcases h with ⟨b,c,e0,e1,e2⟩ | ⟨e0,e2,e1⟩
  ·refine ⟨sliced (some ⟨b,0,none⟩) 0 j.toNat c s,?_,?_⟩
   ·simp only [execOp,e1,QxG,QxH,hhi.v (hR hi)];rw [Sem.run_bind,run_sliceAt_slice (w:=w) T _ _ _ _ hu',run_slice_h (w:=w) T (some ⟨b,0,none⟩) m c hu' k j h0 (by omega),hel,Qp (Zv hT).2];rfl
   ·unfold RA sliced;refine .inl ⟨b,c,e0,?_,by omega⟩;by_cases hc:c=0
    ·rw [if_pos hc];rfl
    ·rw [if_neg hc];simp [Addr.add_mid]
  ·subst e2;refine ⟨sliced none 0 j.toNat 0 s,?_,?_⟩
   ·simp only [execOp,e1,QxG,QxH,hhi.v (hR hi)];rw [Sem.run_bind,run_sliceAt_slice (w:=w) T _ _ _ _ hu',run_slice_h (w:=w) T none 0 0 hu' k j h0 (by omega),hel,Qp (Zv hT).2];rfl
   ·unfold RA sliced;have:j.toNat=0:=by omega
    rw [this];exact .inr ⟨e0,rfl,rfl⟩
theorem Qdt {α:Type} (l:List α) (o:Nat):Qs l o []=l:=rfl
theorem Qge (z:Array Value) (hz:0 < z.size) (k:Nat):(Builtin.zeroCells z k).toList=Wj z.toList k:=Vb z hz k
theorem Qtp {T e:TypeId} {x:Operand} {r i m s pub bytes:Nat} {cells:List PV} {t:TypeId} {z:List Value} (hx:Gv (st.ev x) (.oss r i m s)) (hl:st.ob r=.row cells t s pub) (hT:Qbh P T=some (e,s,bytes,z)) (hs:0 < s) (h1:z.all (·.oneCell')=true)
  (hp:pub<=i * s) (hin:(i+m) * s<=cells.length) :
  Qd P E kp n ops ⟨none,.call { callee:=.builtin .clear,args:=#[x],argTypes:=#[T] },ty,ps,af,none⟩ st (st.set r (.row (Qs cells (i * s) (WT z m)) t s pub)):=by
 refine Qd.val rfl fun a w ⟨φ,Pub,I,h0,hn,hsl⟩=>?_;obtain ⟨ii,v,t1,t2,t3,t4,t5,t6,t7⟩:=XG hT;have hzl:z.length=s:=by rw [<- t7,Array.length_toList,t6]
 have h:=hx _ _ _ _ (Za (h:=st.heap) hsl x);have k:=I.own r;have hl':look OB.dead st.heap r=.row cells t s pub:=hl;rw [hl'] at k;have hzero:∀ w,(zeroValue e).run P w=.ok v w:=fun w=>by simp [zeroValue,typeInfo,t2,t3]
 have hmul:(i+m) * s=i * s+m * s:=Nat.add_mul ..;by_cases hm0:m=0
 ·subst hm0
  have e1:∃ ad c,a.eval x=.slice ad 0 c:=by
   unfold RA at h;rcases h with ⟨b,c,o,c',_,e1,_⟩ | ⟨_,_,_,e1⟩
   ·exact ⟨_,_,e1⟩
   ·exact ⟨_,_,e1⟩
  obtain ⟨ad,c,e1⟩:=e1;have hput:Qs cells (i * s) (WT z 0)=cells:=by unfold WT;exact Qdt _ _
  refine ⟨.tuple #[],w,?_,?_⟩
  ·cases ad <;> simp [execOp,resolve,invoke,builtin,e1,Builtin.clear_,run_underlying t1,Result.andThen]
  ·rw [hput];refine ⟨φ,Pub,?_,h0,hn,fun q=>hsl q⟩;show Inv E kp φ Pub ((r,OB.row cells t s pub)::st.heap) w;refine I.sub fun q=>?_;rw [Qb];split
   ·next e=>subst e;exact .inl hl'.symm
   ·exact .inl rfl
 unfold RA at h;rcases h with ⟨b,c,o,c',e2,e1,e3,e4,e5⟩ | ⟨_,_,e3,_⟩
 ·rcases k with ⟨k0,_⟩ | ⟨b',c2,cur,fr,k1,⟨k2,k2'⟩,k3,k4,k5,k6,k7,k8⟩
  ·rw [e2] at k0;cases k0
  rw [e2] at k1;cases k1;have e3:=e3 hm0;subst e3;have hlz:(Wj z m).length=m * s:=by rw [W7,hzl]
  have hst:=run_storeCells_cells (P:=P) b (i * s) (Wj z m) 0 w (fun j hj=>by
   rw [Nat.add_zero,cell_of_row w b _ cur _ fr k2,Array.getElem?_eq_getElem (by omega)];rfl) (fun j hj=>by
   unfold World.frozen?;simp only [k2];rcases k2' with h0 | h0
   ·subst h0;simp
   ·simp;omega) (Vc h1 m)
  simp only [Nat.add_zero] at hst;obtain ⟨I',H⟩:=I.storeRow (o:=i * s) hl' e2 (Qc2 (w:=w) (Pub:=Pub) z m) (Vc h1 m) hp (by rw [Yj,hzl];omega);refine ⟨.tuple #[],_,?_,⟨φ,Pub,I',h0,hn,fun q=>QF H _ _ (fun _ _=>rfl) (hsl q)⟩⟩;have hzc:=Qge v.cells (by rw [t6];exact hs) m;rw [t7] at hzc;obtain ⟨m',rfl⟩:∃ m',m=m'+1:=⟨m - 1,by omega⟩;simp [execOp,resolve,invoke,builtin,e1,Builtin.clear_,run_underlying t1,hzero,hzc,hst,Result.andThen]
 ·omega
end
end
end Go.Proofs.YtcebndkiagbddaaGreatDoor
