/- StageAside: until a stage is committed, the configuration in force does not change: the statement holds of the program, for every input. No further condition. -/
import Derived.Test.YtcebndkiagbddaaGreatDoorTie
import Derived.Test.YtcebndkiagbddaaGreatDoorCards
import Derived.Lay
import Derived.SevenTiedAt
import Derived.MakeChecks
import Derived.Lib.LaidTab
import Derived.Stop.LaidErr
import Derived.Test.YtcebndkiagbddaaGreatDoorKStageAside0
set_option linter.unusedVariables false
set_option linter.unusedSimpArgs false
set_option maxRecDepth 100000
set_option maxHeartbeats 4000000
namespace Go.Proofs.YtcebndkiagbddaaGreatDoor
section
open Go.RowKit Go.Lib
abbrev stgW (r:Nat) (s:StgS):List EV:=[.b true,Wz s.rest,.s s.c.k,.i s.c.port,.osl r s.c.ps.length,.s s.at_,.i s.err]
def badR (o:QlB):Prop:=¬ o.2.2=0→o.1=Q4∧o.2.1=[]
theorem badR_if {p:Prop} [Decidable p] {a b:QlB} (h:badR a) (k:badR b):badR (if p then a else b):=by split <;> assumption
theorem badR_0 (c:ConfS) (a:List UInt8):badR (c,a,0):=fun h=>absurd rfl h
theorem badR_n (e:Int):badR (noS e):=fun _=>⟨rfl,rfl⟩
theorem one_bad {c:ConfS} {a:List UInt8} {s:SetS} (h:¬ (Qi c a s).2.2=0):(Qi c a s).1=Q4∧(Qi c a s).2.1=[]:=by
 have k:badR (Qi c a s):=by
  unfold Qi Qes
  exact badR_if (badR_if (badR_0 _ _) (badR_n _)) (badR_if (badR_0 _ _) (badR_if (badR_0 _ _) (badR_if (badR_if (badR_n _) (badR_if (badR_0 _ _) (badR_if (badR_n _) (badR_0 _ _)))) (badR_if (badR_n _)
   (badR_if (badR_0 _ _) (badR_if (badR_0 _ _) (badR_if (badR_0 _ _) (badR_if (badR_0 _ _) (badR_if (badR_0 _ _) (badR_if (badR_n _) (badR_0 _ _)))))))))))
 exact k h
theorem cf_StW {c:ConfS} {a:List UInt8} {s:SetS} (h:ConfOk c) (ha:Qb0 a) (hs:Qx s) (hz:(Qi c a s).2.2=0):Cf Tryz.prog 26 [] [Qp c,.s a,Z9 s] [(60,rowP (Qi c a s).1.ps)] (.tup [aggP (Qi c a s).1,.s (Qi c a s).2.1,.i 0]):=cf_OneW h ha hs hz
theorem cf_StE {c:ConfS} {a:List UInt8} {s:SetS} (h:ConfOk c) (ha:Qb0 a) (hs:Qx s) (hz:¬ (Qi c a s).2.2=0):Cf Tryz.prog 26 [] [Qp c,.s a,Z9 s] [] (.tup [Qp Q4,.s [],.i (Qi c a s).2.2]):=by
 have k:=Qjs h ha hs;rw [(one_bad hz).1,(one_bad hz).2] at k;exact k
theorem stTW {p:Prop} (_:p) (h:¬ True):False:=h trivial
theorem stTE {p q:Prop} (_:p) (_:q):True:=trivial
theorem stFW {p q:Prop} (_:p) (_:q):True:=trivial
theorem stFE {p:Prop} (h:¬ p) (k:p):False:=h k
theorem cf_StCopyWO {s:StgS} (h:StgOk s):Cf Tryz.prog 78 [] [Qb9 s] [(60,rowP s.c.ps)] (.agg (stgW 60 s)):=by
 have hl:=h.len;refine QV {} Tryz.func78 Tryz.ntmps78 ?_;refine ⟨[0,1,3,0,8,31,31,127,255,511],by kernel_rfl,?_⟩;refine clX (XD (L:=s.rest) (by omega)) ?_
 repeat refine o1 ?_
 refine clX (QK (c:=s.c) (hl3 h.c) (h86 h.c)) ?_
 repeat refine o2 ?_
 trivial
theorem cf_StepWO {s:StgS} {n:Nat} (h:StgOk s) (hn:n≤100000):Cf Tryz.prog 35 [] [Qb9 s,.i (n:Int)] [(60,rowP (stN n s).c.ps)] (.tup [.agg (stgW 60 (stN n s)),.i 0]):=by
 refine QV {bo:=[50]} Tryz.func35 Tryz.ntmps35 ?_;refine clX (VN h) ?_
 repeat refine o1 ?_
 refine knF (knF ?_);refine ⟨fun h3=>?_,fun h3=>?_⟩
 ·skip
  have c3:=h3
  (simp only [bsX] at c3)
  exact absurd c3 (by omega)
 ·skip
  have c3:=h3
  (simp only [bsX] at c3)
  refine clX (cf_StCopyWO h) ?_
  repeat refine o1 ?_
  refine ⟨Nat×StgS,fun p=>⟨[(1,.i ((n:Int) - (p.1:Int))),(4,.own 1004 0),(7,.own 1007 0)],[(1004,.box QuM 66),(1007,.box (stgW 61 p.2) 66),(61,rowP p.2.c.ps)]⟩,fun p=>p.1≤n∧stN (n - p.1) p.2=stN n s∧StgOk p.2,fun p=>n - p.1,(0,s),⟨Nat.zero_le _,rfl,h⟩,?_,fun p hx1=>?_⟩
  ·skip
   repeat refine o2 ?_
   trivial
  repeat refine o19 ?_
  refine ⟨fun h4=>?_,fun h4=>?_⟩
  ·skip
   have c4:=h4
   (simp only [bsX] at c4)
   have hlt:p.1 < n:=by omega
   have hsl:=hx1.2.2.len;have he0:p.2.err=0:=by omega
   obtain ⟨x,r,hr⟩:=QjK (show 0 < p.2.rest.length by omega);obtain ⟨i,rest,cf,af,ef⟩:=p;obtain rfl:rest=x::r:=hr;obtain rfl:ef=0:=he0;have hxs:Qx x:=hx1.2.2.rest x (List.mem_cons_self ..);by_cases hz:(Qi cf af x).2.2=0
   ·skip
    refine ⟨[0,1,0,4,0,16,48,112,255,511,1023,1023,1023,0,10239,28671,65535],by kernel_rfl,?_⟩
    repeat refine o3 ?_
    refine clX (cf_StW hx1.2.2.c hx1.2.2.at_ hxs hz) ?_
    repeat refine o1 ?_
    refine ⟨fun h5=>?_,fun h5=>?_⟩
    ·skip
     (simp only [Int.reduceToNat,UInt8.reduceOfNat] at h5)
     have c5:=h5
     (simp only [bsX] at c5)
     have hF:=stTW hz c5;have hR:stN n s=⟨x::r,cf,af,(Qi cf af x).2.2⟩:=by exact hF.elim
     repeat (refine Ob.mk ?_ ?_;focus (exact hF.elim))
     trivial
    ·skip
     (simp only [Int.reduceToNat,UInt8.reduceOfNat] at h5)
     have c5:=h5
     (simp only [bsX] at c5)
     have hF:=stFW hz c5;have hnx:i+1≤n∧stN (n - (i+1)) ⟨r,(Qi cf af x).1,(Qi cf af x).2.1,0⟩=stN n s∧StgOk ⟨r,(Qi cf af x).1,(Qi cf af x).2.1,0⟩:=by (have hst:=QdU (s:=⟨x::r,cf,af,0⟩) rfl rfl hz;exact ⟨hlt,by rw [← hx1.2.1,show n - i=(n - (i+1))+1 from by omega];show _=stN (n - (i+1)) (st1 ⟨x::r,cf,af,0⟩);rw [hst],by rw [← hst];exact hx1.2.2.step⟩)
     refine ⟨[0,0,0,4,12,28,13,125,255,511,1023,2047],by kernel_rfl,?_⟩
     repeat refine o3 ?_
     refine clX (XD (L:=r) (by rw [List.length_cons] at hsl;omega)) ?_
     repeat refine o120 ?_
     refine Ql (i+1,⟨r,(Qi cf af x).1,(Qi cf af x).2.1,0⟩) ?_
     repeat refine o2 ?_
     trivial
   ·skip
    refine ⟨[0,1,0,4,0,16,48,112,255,511,1023,1023,1023,0,10239,28671,65535],by kernel_rfl,?_⟩
    repeat refine o3 ?_
    refine clX (cf_StE hx1.2.2.c hx1.2.2.at_ hxs hz) ?_
    repeat refine o1 ?_
    refine ⟨fun h5=>?_,fun h5=>?_⟩
    ·skip
     (simp only [Int.reduceToNat,UInt8.reduceOfNat] at h5)
     have c5:=h5
     (simp only [bsX] at c5)
     have hF:=stTE hz c5;have hR:stN n s=⟨x::r,cf,af,(Qi cf af x).2.2⟩:=by (rw [← hx1.2.1,show n - i=(n - i - 1)+1 from by omega];show stN (n - i - 1) (st1 ⟨x::r,cf,af,0⟩)=_;rw [Qbw (s:=⟨x::r,cf,af,0⟩) rfl rfl hz];exact Y2 (VM hz) _)
     repeat (refine Ob.mk ?_ ?_;focus (first | (rw [hR];done) | (rw [hR];exact fun _ _ _ _=>rfl) | (exact Eq.refl _) | omega))
     trivial
    ·skip
     (simp only [Int.reduceToNat,UInt8.reduceOfNat] at h5)
     have c5:=h5
     (simp only [bsX] at c5)
     have hF:=stFE hz c5;have hnx:i+1≤n∧stN (n - (i+1)) ⟨r,(Qi cf af x).1,(Qi cf af x).2.1,0⟩=stN n s∧StgOk ⟨r,(Qi cf af x).1,(Qi cf af x).2.1,0⟩:=by exact hF.elim
     refine ⟨[0,0,0,4,12,28,13,125,255,511,1023,2047],by kernel_rfl,?_⟩
     repeat (refine Ob.mk ?_ ?_;focus (exact hF.elim))
     refine clX (XD (L:=r) (by rw [List.length_cons] at hsl;omega)) ?_
     repeat (refine Ob.mk ?_ ?_;focus (exact hF.elim))
     refine ⟨(i+1,⟨r,(Qi cf af x).1,(Qi cf af x).2.1,0⟩),(by assumption),(by omega),?_⟩;trivial
  ·skip
   have c4:=h4
   (simp only [bsX] at c4)
   have hR:stN n s=p.2:=by rw [← hx1.2.1];by_cases q:p.2.rest=[];exact Y2 (Qbv q) _;by_cases q2:p.2.err=0;rw [show n - p.1=0 from by have:=List.length_pos_iff.2 q;omega];rfl;exact Y2 (VM q2) _
   repeat (refine Ob.mk ?_ ?_;focus (first | (rw [hR];done) | (rw [hR];exact fun _ _ _ _=>rfl) | (exact Eq.refl _) | omega))
   trivial
end
section
open Go.RowKit Go.Lib
theorem cf_BeginEO {c:ConfS} {s:List UInt8} (h:ConfOk c) (he:¬ (Wm s).2.2=0):Cf Tryz.prog 34 [] [Qp c,.s s] [] (.tup [.agg QuM,.i (Wm s).2.1,.i (Wm s).2.2]):=by
 refine Qs {} Tryz.func34 Tryz.ntmps34 ?_;refine clX (Qh h) ?_
 repeat refine o7 ?_
 refine knF ?_;refine clX (QdP (s:=s)) ?_
 repeat refine o0 ?_
 refine ⟨fun h2=>?_,fun h2=>?_⟩
 ·skip
  have c2:=h2
  (simp only [bsX] at c2)
  repeat refine o0 ?_
  trivial
 ·skip
  have c2:=h2
  (simp only [bsX] at c2)
  exact absurd c2 he
theorem what_no:(Wm [119,104,97,116,61,49]).2.2=2:=by decide +kernel
theorem cf_StageAsideO {l m:List RawS} {n0:Int} {k:Nat} {C:ConfS} {L:List SetS} {T:StgS} (hl:∀ x∈l,x.inn) (hn:(l.length:Int)≤9223372036854775807) (hm:∀ x∈m,x.inn) (hmn:(m.length:Int)≤9223372036854775807) (hn0:YA n0) (hk:pk n0 30=(k:Int)) (eC:Yj l=C) (eL:WK m 20=L) (eT:stN k ⟨L,C,[],0⟩=T):Cf Tryz.prog 11 [] [QR l,QR m,.i n0] [] (.b true):=by
 have hC:ConfOk C:=eC ▸ Yk l;have hL:∀ s∈L,Qx s:=eL ▸ fun s hs=>⟨(Zv m 20 s hs).1,(Zv m 20 s hs).2.1⟩;have hLn:L.length≤20:=by rw [← eL,Q7];omega
 have hK:=Yo hl hn;rw [eC] at hK;have hS:=WL (m:=20) hm hmn (by decide);rw [eL] at hS;have hk30:k < 30:=by have:=QW n0 (m:=30) (by decide);omega
 have hkt:=VJ (L:=L) hL (by omega);have hbg:=QdW (s:=jtx (L.map ls1)) (L:=L) hC (Ju hL (by omega)).2.1;have hs0:StgOk ⟨L,C,[],0⟩:=⟨hC,hL,(by show L.length≤60;omega),.inl rfl,⟨Int.le_refl _,by show (0:Int)≤14;decide⟩⟩;have hst:=cf_StepWO (n:=k) hs0 (by omega);rw [eT] at hst;have hbe:=cf_BeginEO (s:=[119,104,97,116,61,49]) hC (by rw [what_no];decide);rw [what_no] at hbe;have hTl:T.c.ps.length≤6:=eT ▸ (hs0.stN k).c.pl;have hsm:WR C C=true:=W6.2 rfl;have hpk:Cf Tryz.prog 27 [] [.i n0,.i 30] [] (.i (k:Int)):=Qd hn0 (by decide) hk;refine QV {} Tryz.func11 Tryz.ntmps11 ?_;refine clX hK ?_
 repeat refine o1 ?_
 refine clX hK ?_
 repeat refine o1 ?_
 refine ⟨[0,0,2,6,15,31,63,63,63,0,639,1791,4095],by kernel_rfl,?_⟩;refine clX hS ?_
 repeat refine o1 ?_
 refine clX hkt ?_
 repeat refine o1 ?_
 refine clX hbg ?_
 repeat refine o1 ?_
 refine ⟨[0,0,2,7,15,31,31,0,191,511],by kernel_rfl,?_⟩;refine clX hpk ?_
 repeat refine o0 ?_
 refine clX hst ?_
 repeat (refine Ob.mk ?_ ?_;focus (first | (exact fun _ _ _ _=>rfl) | (exact Eq.refl _) | (intro _;exact Eq.refl _)))
 refine ⟨fun h1=>?_,fun h1=>?_⟩
 ·skip
  (simp only [Int.reduceToNat,UInt8.reduceOfNat] at h1)
  have c1:=h1
  (simp only [bsX] at c1)
  exact absurd c1 (by simp)
 ·skip
  (simp only [Int.reduceToNat,UInt8.reduceOfNat] at h1)
  have c1:=h1
  (simp only [bsX] at c1)
  refine ⟨Nat×(Nat→Nat→EV),fun p=>⟨[(6,.b false),(7,.own 1007 0),(8,.own 1008 0),(12,.own 1012 0),(52,.i (T.c.ps.length:Int)),(53,.i (p.1:Int))],[(1007,.box [.s C.k,.i C.port,Qo C.ps] 25),(1008,.box [.s C.k,.i C.port,Qo C.ps] 25),(1012,.box (stgW 61 T) 66),(61,.rz T.c.ps.length 5 p.2 33 0)]⟩,fun p=>p.1≤T.c.ps.length,fun p=>T.c.ps.length - p.1,(0,fun u v=>Qk (T.c.ps.getD u Qa) v),Nat.zero_le _,?_,fun p hx1=>?_⟩
  ·skip
   repeat refine o2 ?_
   trivial
  refine ⟨fun h2=>?_,fun h2=>?_⟩
  ·skip
   have c2:=h2
   (simp only [bsX] at c2)
   have hi:p.1 < T.c.ps.length:=by omega
   repeat refine o4 ?_
   refine Ql (p.1+1,stZ p.2 p.1 3 [.i (-1)]) ?_
   repeat refine o2 ?_
   trivial
  ·skip
   have c2:=h2
   (simp only [bsX] at c2)
   refine clX hbe ?_
   repeat refine o1 ?_
   refine gx (fun hc=>(WM hC hC)) (fun hk=>⟨hk,?_⟩)
   repeat (refine Ob.mk ?_ ?_;focus (first | (intro _;exact Eq.refl _) | assumption | (intro hg;((intro hq;((simp_all;done)))))))
   trivial
theorem cf_StageAside {l m:List RawS} {n0:Int} (hl:∀ x∈l,x.inn) (hn:(l.length:Int)≤9223372036854775807) (hm:∀ x∈m,x.inn) (hmn:(m.length:Int)≤9223372036854775807) (hn0:YA n0):Cf Tryz.prog 11 [] [QR l,QR m,.i n0] [] (.b true) :=
 cf_StageAsideO (k:=(pk n0 30).toNat) hl hn hm hmn hn0 (by have:=Q0 n0 (m:=30) (by decide);omega) rfl rfl rfl
end
namespace stageAside
open Go.ChangeShapes Go.WideShapes Go.ChangeAt Go.RowKit
open Go.ChangeMaps (open_string shut_string)
def QN:List (String×DataW Unit):=[("math/bits.deBruijn32tab",Rows.laid_math_bits_deBruijn32tab),("math/bits.deBruijn64tab",Rows.laid_math_bits_deBruijn64tab),("internal/strconv.uint64pow10",Rows.laid_internal_strconv_uint64pow10),("unicode/utf8.acceptRanges",Rows.laid_unicode_utf8_acceptRanges),("unicode/utf8.first",Rows.laid_unicode_utf8_first)]
theorem Zw {W:World} (h:laidMetH Tryz.prog QN W):Amb W (Vp W):=by
 rw [MakeChecks.laidMetH_plain _ _ _ (by kernel_rfl)] at h;unfold QN at h;exact YT (laidMet.tail (laidMet.tail h))
theorem Z5 (os:Os) (started:os.Started) (H:Type) (enc:TypeId×Value→H) :
  ReturnsInHanded {} Tryz.checked os 11 .any (fun w args=>(Rows.stageAsideSpec.pre enc Tryz.prog Tryz.f11 Rows.stageAsideRow.domain false w args∧laidMetH Tryz.prog QN w)∧sizedMet enc Tryz.prog Tryz.f11 (OpenSpec.ofChange Rows.stageAsideSpec) false w args) (Rows.stageAsideSpec.post enc Tryz.prog Tryz.f11 false true false false):=by
 refine returnsInHanded_of_change_and (C:=Tryz.checked) (X:=fun w _=>laidMetH Tryz.prog QN w) (fun _ _ _ hh h=>h.of_heap hh) own started (by kernel_rfl) Tryz.func11
  (ChangeSpec.witness_shaped (enc:=enc) (C:=Tryz.checked) (os:=os) (X:=fun w _=>laidMetH Tryz.prog QN w) false (World.laidAll Tryz.prog os QN) #[.slice none 0 0,.slice none 0 0,.int .i64 0] 8 (World.laidAll_os _ _ _)
   (World.shaped_of_ZipB (by kernel_rfl) (by kernel_rfl)) (by kernel_rfl) (by kernel_rfl) (by kernel_rfl)
   (by rw [MakeChecks.laidMetH_plain _ _ _ (by kernel_rfl)];exact laidMet_laidAll _ (by kernel_rfl) (by kernel_rfl))) ?_
 intro W base args ds gs before hval0 hW hcnd hwt hL _;have hval:∀ (j:Nat) t v,Tryz.f11.params[j]? = some t→args[j]? = some v→Value.okWide Tryz.prog W .any base t v:=hval0;have hW':=hW;obtain ⟨p,q,hA0,hV,rfl,hfz,hnd⟩:=hW;have hA:DataW.TrodAll enc Tryz.prog W 0 (fun _=>true) true Tryz.f11.params.toList args.toList ds p:=hA0;rw [Tryz.params11] at hA hval;obtain ⟨v0,vs0,d0,ds0,p0,q0,hargs,rfl,rfl,h0,r0⟩:=trodAll_cons hA;obtain ⟨v1,vs1,d1,ds1,p1,q1,rfl,rfl,rfl,h1,r1⟩:=trodAll_cons r0;obtain ⟨v2,vs2,d2,ds2,p2,q2,rfl,rfl,rfl,h2,r2⟩:=trodAll_cons r1;obtain ⟨rfl,rfl,rfl⟩:=trodAll_nil r2;obtain rfl:args = #[v0,v1,v2]:=by cases args;simp_all
 obtain ⟨rfl,rfl⟩:=trodVars_none hV;have k0:=h0;have lt0:∀ x∈p0,x.block < W.heap.size:=by obtain ⟨m,hm⟩:=k0;exact DataW.trod_lt m _ _ _ hm
 have k1:=h1;have lt1:∀ x∈p1,x.block < W.heap.size:=by obtain ⟨m,hm⟩:=k1;exact DataW.trod_lt m _ _ _ hm
 have k2:=h2;have lt2:∀ x∈p2,x.block < W.heap.size:=by obtain ⟨m,hm⟩:=k2;exact DataW.trod_lt m _ _ _ hm
 obtain ⟨l0,ok0,z0⟩:=Wb (hval 0 _ v0 rfl rfl) h0;obtain ⟨l1,ok1,z1⟩:=Wb (hval 1 _ v1 rfl rfl) h1;obtain ⟨n2,rfl,_,_,wn2⟩:=open_int Tryz.underlying3 (hval 2 _ v2 rfl rfl) h2;have ok2:=VS wn2;clear hA0 hval0;refine (Z8 (vs:=[_,_,_]) (cf_StageAside ok0.2 (by have:=ok0.1;unfold maxLen at this;omega) ok1.2 (by have:=ok1.1;unfold maxLen at this;omega) ok2) (Zw hL) (Wd z0 (Wd z1 (Wd (Qjx _) VR)))).mono fun e W9 ⟨he,bel⟩=>?_;subst he;exact ⟨_,rfl,_,_,_,[],_,[],hW',trodAll_mk1 (shut_bool Tryz.underlying4 _),(trodAll_cons_mk (Below.trod WD (by kernel_rfl) (of_decide_eq_true (by kernel_rfl)) k0 bel lt0) (trodAll_cons_mk (Below.trod WD (by kernel_rfl) (of_decide_eq_true (by kernel_rfl)) k1 bel lt1) (trodAll_cons_mk (Below.trod WD (by kernel_rfl) (of_decide_eq_true (by kernel_rfl)) k2 bel lt2) trodAll_mk0))),rfl,bel.frame _,fun h=>by cases h⟩
theorem QaS:(Rows.stageAsideRow.inPlace == Tryz.pinned.checked.prog.inPlace 11)=true:=by kernel_rfl
theorem QaT:(Rows.stageAsideRow.unfollowed == Tryz.pinned.checked.prog.unfollowed 11)=true:=by kernel_rfl
theorem QaU:(Rows.stageAsideRow.recurses == Tryz.pinned.checked.prog.recurses 11)=true:=by kernel_rfl
theorem QaV:(Rows.stageAsideRow.named == Tryz.pinned.checked.prog.varsNamed 11)=true:=by kernel_rfl
theorem QaW:(Rows.stageAsideRow.plainKeys == Tryz.pinned.checked.prog.plainKeys)=true:=by kernel_rfl
theorem Z6:joinedFacts Tryz.pinned.checked.prog 11 Tryz.f11 Rows.stageAsideSpec Rows.stageAsideRow=true:=by
 unfold joinedFacts;exact Qc (Qc (Qc (Qc (Qc (Qc (Qc (Qc (Qc (Qc (Qc (Qc (Qc (Qc (Qc (Qc (Qc (Qc (Qc (Qc (Qc (Qc (Qc (Qc (Qc (Qc (Qc (Qc (Qc (Qc (Qc (by kernel_rfl) Qc6) Qc5) (by kernel_rfl)) (by kernel_rfl)) (by kernel_rfl)) (by kernel_rfl)) (by kernel_rfl)) (by kernel_rfl)) QaS) QaT) QaU) QaV) (by kernel_rfl)) (by kernel_rfl)) (by kernel_rfl)) (by kernel_rfl)) (by kernel_rfl)) (by kernel_rfl)) (by kernel_rfl)) (by kernel_rfl)) (by kernel_rfl)) QaW) (by kernel_rfl)) JX) JW) (YW (by kernel_rfl))) (XV (by kernel_rfl))) (by kernel_rfl)) (by kernel_rfl)) (by kernel_rfl)) (by kernel_rfl)
theorem QaX:Rows.stageAsideRow.holds Tryz.pinned (OpenSpec.ofChange Rows.stageAsideSpec) :=
 OpenClaim.holds_of_wide 11 Tryz.f11 rfl rfl rfl rfl rfl rfl rfl ⟨rfl,rfl,rfl,rfl,rfl⟩ rfl rfl rfl rfl rfl (by kernel_rfl) Tryz.func11 Z6
  (of_decide_eq_true (by kernel_rfl)) (by unfold Func.isWrapper;first | (rw [if_pos (by decide +kernel)];kernel_rfl) | (rw [if_neg (by decide +kernel)];exact ⟨rfl,rfl⟩))
  (fun os started H enc _=>Z5 os started H enc)
theorem pw1:Rows.stageAsideRow.wfByText (OpenSpec.ofChange Rows.stageAsideSpec)=true:=by kernel_rfl
theorem pw2:Tryz.pinned.checked.prog.mainIs=some ((true,"304393dc0cffdc476f139ebc5f59f91e4654f2b28d5098997c89b056d7c62b16").1,(true,"304393dc0cffdc476f139ebc5f59f91e4654f2b28d5098997c89b056d7c62b16").2.toList):=by kernel_rfl
theorem pw3:false=Tryz.pinned.checked.prog.looks []:=by kernel_rfl
theorem pw4:([22,22,3].all fun u=>!Tryz.prog.wantsStandIn u)=true:=by kernel_rfl
theorem pw5:false=Rows.stageAsideRow.goesBy Tryz.pinned.checked.prog:=by kernel_rfl
theorem pw6:Tryz.prog.funcNamed "cattlecreep/cattlecreepkeep.StageAside" = some 11:=by kernel_rfl
theorem proved:Rows.StageAsideCardSaid :=
 Claim7.holds_tied_plain_at .later [] [.data,.data,.data,.data,.pinned] true (true,"304393dc0cffdc476f139ebc5f59f91e4654f2b28d5098997c89b056d7c62b16") false
  QaX (fun _ h=>by cases h) pw1 (fun _ h=>by cases h) stageAside_row_tie rfl ⟨rfl,rfl⟩ pw2 rfl
  (fun f fn hf hfn=>by
   obtain rfl:f=11:=Option.some.inj (pw6.symm.trans hf) |>.symm;obtain rfl:fn=Tryz.f11:=(Option.some.inj (Tryz.func11.symm.trans hfn)).symm
   exact ⟨pw3,fun j t ht=>by
    rw [Tryz.params11] at ht;have hm:t∈[22,22,3]:=by simpa using Array.mem_of_getElem? ht
    exact (show Tryz.prog.wantsStandIn t=false by simpa using List.all_eq_true.1 pw4 t hm)⟩)
  pw5
#print axioms proved
end stageAside
end Go.Proofs.YtcebndkiagbddaaGreatDoor
