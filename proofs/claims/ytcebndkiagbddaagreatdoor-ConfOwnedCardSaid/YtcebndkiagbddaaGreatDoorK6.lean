/- A part of the proof: contracts of functions and what they stand on. Written shorter and merged by a program (pack.py). -/
import Derived.Test.YtcebndkiagbddaaGreatDoorK5
set_option linter.unusedVariables false
set_option linter.unusedSimpArgs false
set_option maxRecDepth 100000
set_option maxHeartbeats 4000000
open Nat renaming beq -> Qxo, ble -> Qxp, blt -> Qxq
open UInt32 renaming ofNat -> Qxr
open UInt64 renaming ofNat -> Qxs
open BitVec renaming ofInt -> Qxt
open UInt8 renaming ofNat -> Qxu
namespace Go.Proofs.YtcebndkiagbddaaGreatDoor
section
open Go.RowKit
def EV.fc {α:Type} (k:EV->α):EV->α
 | .v x=>k (.v x)
 | .u8 c=>k (.u8 c)
 | .u32 c=>k (.u32 c)
 | .u64 c=>k (.u64 c)
 | .az n f=>k (.az n f)
 | .bs l=>k (.bs l)
 | .lz n sz f=>k (.lz n sz f)
 | .agg l=>k (.agg l)
 | .tup l=>k (.tup l)
 | .pp c o=>k (.pp c o)
 | .pb l i=>k (.pb l i)
 | .pz n sz f i o=>k (.pz n sz f i o)
 | .raw x=>k (.raw x)
 | .sl c n=>k (.sl c n)
 | .po r s i o=>k (.po r s i o)
 | .own r o=>k (.own r o)
 | .osl r n=>k (.osl r n)
 | .fn f c=>k (.fn f c)
 | .rp t=>k (.rp t)
 | .mref r=>k (.mref r)
 | .oss r i n s=>k (.oss r i n s)
 | .cnd g x=>k (.cnd g x)
 | .any=>k .any
theorem EV.fc_eq {α:Type} (k:EV->α) (x:EV):x.fc k=k x:=by cases x <;> rfl
def QeK {α β:Type} (k:List α->β) (m:List α):List α->β
 | []=>k m
 | x::l=>QeK (fun m'=>k (x::m')) m l
theorem ZU {α β:Type} (m:List α):∀ (l:List α) (k:List α->β),QeK k m l=k (l++m)
 | [],k=>rfl
 | x::l,k=>ZU m l _
structure RS where
 C:List Prop
 sl:List (Nat×EV)
 hp:List (Nat×EB)
def ZV:EV->Option Int
 | .v (.int .i64 i)=>some i
 | _=>none
def YV:EV->Option (IntKind×Int)
 | .v (.int k i)=>some (k,i)
 | .u8 c=>some (.u8,(c.toNat:Int))
 | .u32 c=>some (.u32,(c.toNat:Int))
 | .u64 c=>some (.u64,(c.toNat:Int))
 | _=>none
def asB:EV->Option Bool
 | .v (.bool g)=>some g
 | _=>none
def asS:EV->Option (List UInt8)
 | .v (.string ⟨⟨l⟩⟩)=>some l
 | _=>none
def Qbs:EV->Option UInt8
 | .u8 c=>some c
 | .v (.int .u8 (.ofNat m))=>bif Qxq m 256 then some (Qxu m) else none
 | _=>none
def YA:EV->Option UInt32
 | .u32 c=>some c
 | .v (.int .u32 (.ofNat m))=>bif Qxq m 4294967296 then some (Qxr m) else none
 | _=>none
def XL:EV->Option UInt64
 | .u64 c=>some c
 | .v (.int .u64 (.ofNat m))=>bif Qxq m 18446744073709551616 then some (Qxs m) else none
 | _=>none
def arF (wr:Bool) (x:Int):Option (List Prop×EV):=bif wr then some ([],.i (IntKind.i64.wrap x)) else some ([-9223372036854775808<=x/\x<=9223372036854775807],.i x)
def intF (wr:Bool) (i j:Int):BinOp->Option (List Prop×EV)
 | .lss=>some ([],.b (decide (i < j)))
 | .leq=>some ([],.b (decide (i<=j)))
 | .gtr=>some ([],.b (decide (j < i)))
 | .geq=>some ([],.b (decide (j<=i)))
 | .eql=>some ([],.b (decide (i=j)))
 | .neq=>some ([],.b (!decide (i=j)))
 | .add=>arF wr (i+j)
 | .sub=>arF wr (i - j)
 | .mul=>arF wr (i * j)
 | .quo=>some ([0<=i/\0 < j,i<=9223372036854775807],.i (i / j))
 | .rem=>some ([0<=i/\0 < j],.i (i % j))
 | .or=>some ([],.i (IntKind.i64.wrap ((Qxt 64 i ||| Qxt 64 j).toNat:Int)))
 | .and=>some ([],.i (IntKind.i64.wrap ((Qxt 64 i &&& Qxt 64 j).toNat:Int)))
 | .xor=>some ([],.i (IntKind.i64.wrap ((Qxt 64 i ^^^ Qxt 64 j).toNat:Int)))
 | _=>none
def u8F (i j:UInt8):BinOp->Option EV
 | .lss=>some (.b (decide (i.toNat < j.toNat)))
 | .leq=>some (.b (decide (i.toNat<=j.toNat)))
 | .gtr=>some (.b (decide (j.toNat < i.toNat)))
 | .geq=>some (.b (decide (j.toNat<=i.toNat)))
 | .eql=>some (.b (decide (i=j)))
 | .neq=>some (.b (!decide (i=j)))
 | .add=>some (.u8 (i+j))
 | .sub=>some (.u8 (i - j))
 | .and=>some (.u8 (i &&& j))
 | .or=>some (.u8 (i ||| j))
 | .xor=>some (.u8 (i ^^^ j))
 | _=>none
def Qs4 (i j:UInt32):BinOp->Option EV
 | .lss=>some (.b (decide (i.toNat < j.toNat)))
 | .leq=>some (.b (decide (i.toNat<=j.toNat)))
 | .gtr=>some (.b (decide (j.toNat < i.toNat)))
 | .geq=>some (.b (decide (j.toNat<=i.toNat)))
 | .eql=>some (.b (decide (i=j)))
 | .neq=>some (.b (!decide (i=j)))
 | .add=>some (.u32 (i+j))
 | .sub=>some (.u32 (i - j))
 | .and=>some (.u32 (i &&& j))
 | .or=>some (.u32 (i ||| j))
 | .xor=>some (.u32 (i ^^^ j))
 | .andNot=>some (.u32 (i &&& ~~~j))
 | _=>none
def Qs5 (i j:UInt64) (op:BinOp):Option EV:=none
def strF (l m:List UInt8):BinOp->Option (List Prop×EV)
 | .add=>some ([l.length+m.length<=9223372036854775807],.s (l++m))
 | .eql=>some ([],.b (decide (l=m)))
 | .neq=>some ([],.b (!decide (l=m)))
 | .lss=>some ([],.b (Op.bytesLess l m))
 | .leq=>some ([],.b (Op.bytesLess l m || decide (l=m)))
 | .gtr=>some ([],.b (!(Op.bytesLess l m || decide (l=m))))
 | .geq=>some ([],.b (!Op.bytesLess l m))
 | _=>none
def Qpu (g q:Bool):BinOp->Option EV
 | .eql=>some (.b (g == q))
 | .neq=>some (.b (!(g == q)))
 | _=>none
def Qpv (c:UInt32) (n:Nat):UInt32:=Qxr (c.toNat <<< n)
def QhC (c:UInt32) (n:Nat):UInt32:=Qxr (c.toNat >>> n)
def shl64 (c:UInt64) (n:Nat):UInt64:=Qxs (c.toNat * 2 ^ min n 64)
def QlO (c:UInt64) (n:Nat):UInt64:=Qxs (c.toNat / 2 ^ min n 64)
def shF (op:BinOp) (x y:EV):Option (List Prop×EV) :=
 match YV y with
 | none=>none
 | some (_,j)=>match YA x with
  | some c=>match op with
   | .shl=>some ([0<=j/\j<=32],.u32 (Qpv c j.toNat))
   | .shr=>some ([0<=j/\j<=32],.u32 (QhC c j.toNat))
   | _=>none
  | none=>match ZV x with
   | some i=>match op with
    | .shr=>some ([0<=j/\j<=63],.i (i / 2 ^ j.toNat))
    | .shl=>some ([0<=j/\j<=63],.i (IntKind.i64.wrap (i * 2 ^ j.toNat)))
    | _=>none
   | none=>match XL x with
    | some c=>match op with
     | .shl=>some ([0<=j],.u64 (shl64 c j.toNat))
     | .shr=>some ([0<=j],.u64 (QlO c j.toNat))
     | _=>none
    | none=>none
def binF (wr:Bool) (op:BinOp) (x y:EV):Option (List Prop×EV) :=
 match op with
 | .shl=>shF .shl x y
 | .shr=>shF .shr x y
 | op=>match ZV x,ZV y with
  | some i,some j=>intF wr i j op
  | _,_=>match Qbs x,Qbs y with
   | some i,some j=>(u8F i j op).map fun z=>([],z)
   | _,_=>match YA x,YA y with
    | some i,some j=>(Qs4 i j op).map fun z=>([],z)
    | _,_=>match asS x,asS y with
     | some i,some j=>strF i j op
     | _,_=>match XL x,XL y with
      | some i,some j=>(Qs5 i j op).map fun z=>([],z)
      | _,_=>none
def Qpw (k':IntKind) (x:EV):Option EV :=
 match k' with
 | .u8=>match x with
  | .u32 c=>some (.u8 (Qxu c.toNat))
  | .u64 c=>some (.u8 (Qxu c.toNat))
  | .u8 c=>some (.u8 c)
  | .v (.int _ i)=>some (.u8 (QfW i))
  | _=>none
 | .u32=>match x with
  | .u8 c=>some (.u32 (Qxr c.toNat))
  | .u32 c=>some (.u32 c)
  | .u64 c=>some (.u32 (Qxr c.toNat))
  | .v (.int _ i)=>some (.u32 (Qxr (i % 4294967296).toNat))
  | _=>none
 | .u64=>match x with
  | .u8 c=>some (.u64 (Qxs c.toNat))
  | .u32 c=>some (.u64 (Qxs c.toNat))
  | .u64 c=>some (.u64 c)
  | .v (.int _ i)=>some (.u64 (Qxs (i % 18446744073709551616).toNat))
  | _=>none
 | .i64=>match x with
  | .u8 c=>some (.i (c.toNat:Int))
  | .u32 c=>some (.i (c.toNat:Int))
  | .u64 c=>some (.i (IntKind.i64.wrap (c.toNat:Int)))
  | .v (.int .i64 i)=>some (.i (IntKind.i64.wrap i))
  | .v (.int .u64 i)=>some (.i (IntKind.i64.wrap i))
  | _=>none
 | k'=>match x with
  | .u8 c=>some (.v (.int k' (k'.wrap (c.toNat:Int))))
  | .u32 c=>some (.v (.int k' (k'.wrap (c.toNat:Int))))
  | .v (.int _ i)=>some (.v (.int k' (k'.wrap i)))
  | _=>none
def tkE:Nat->List EV->Option (List EV)
 | 0,_=>some []
 | _+1,[]=>none
 | n+1,x::xs=>match tkE n xs with
  | some ys=>some (x::ys)
  | none=>none
def dpE:Nat->List EV->List EV
 | 0,l=>l
 | _+1,[]=>[]
 | n+1,_::xs=>dpE n xs
def ptE:Nat->List EV->List EV->Option (List EV)
 | _,l,[]=>some l
 | _,[],_::_=>none
 | 0,_::l,x::xs=>match ptE 0 l xs with
  | some ys=>some (x::ys)
  | none=>none
 | n+1,y::l,xs=>match ptE n l xs with
  | some ys=>some (y::ys)
  | none=>none
def Qdl:Nat->List EV->Option EV
 | _,[]=>none
 | 0,x::_=>some x
 | n+1,_::xs=>Qdl n xs
def csE:EV->List EV
 | .agg l=>l
 | x=>[x]
def ZN:EV->Bool
 | .v u=>u.oneCell'
 | .u8 _=>true
 | .u32 _=>true
 | .u64 _=>true
 | .bs _=>true
 | .lz _ _ _=>true
 | .sl _ _=>true
 | .pp _ _=>true
 | .pb _ _=>true
 | .pz _ _ _ _ _=>true
 | .own _ _=>true
 | .po _ _ _ _=>true
 | .osl _ _=>true
 | .fn _ _=>true
 | .rp _=>true
 | .mref _=>true
 | _=>false
def QL:List EV->Bool
 | []=>true
 | x::xs=>ZN x && QL xs
def vsE:List Value->List EV
 | []=>[]
 | x::xs=>.v x::vsE xs
def Qe2 (pl:List (Nat×Nat×Bool)):List EV->List (Nat×EV)->Option (List EV)
 | cells,[]=>some cells
 | cells,(i,x)::rest=>match pl[i]? with
  | some (o,s,_)=>bif Qxo (csE x).length s && QL (csE x) && Qxp (o+s) cells.length then (match ptE o cells (csE x) with | some c=>Qe2 pl c rest | none=>none) else none
  | none=>none
def Qpx (sz:Nat):Nat->List (Nat×EV)->Option (List EV)
 | _,[]=>some []
 | k,(i,x)::rest=>bif Qxo i k && Qxo (csE x).length sz && QL (csE x) && shL (csE x) then (match Qpx sz (k+1) rest with | some l=>some (csE x++l) | none=>none) else none
def Qs6 (s:Nat):Nat->Nat->List (Nat×Nat×Bool)
 | 0,_=>[]
 | n+1,o=>(o,s,true)::Qs6 s n (o+s)
def lzE (f:Nat->Nat->EV) (i:Nat):Nat->Nat->List EV
 | 0,_=>[]
 | k+1,j=>f i j::lzE f i k (j+1)
def eqF:CK->EV->EV->Option Bool
 | .i .u8,x,y=>match Qbs x,Qbs y with
  | some a,some b=>some (decide (a=b))
  | _,_=>none
 | .i .u32,x,y=>match YA x,YA y with
  | some a,some b=>some (decide (a=b))
  | _,_=>none
 | .i .u64,x,y=>match XL x,XL y with
  | some a,some b=>some (decide (a=b))
  | _,_=>none
 | .i .i64,x,y=>match ZV x,ZV y with
  | some a,some b=>some (decide (a=b))
  | _,_=>none
 | .b,x,y=>match asB x,asB y with
  | some a,some b=>some (a == b)
  | _,_=>none
 | .s,x,y=>match asS x,asS y with
  | some a,some b=>some (decide (a=b))
  | _,_=>none
 | _,_,_=>none
def eqE:List CK->List EV->List EV->Option Bool
 | [],[],[]=>some true
 | k::ks,x::xs,y::ys=>match eqF k x y with
  | some b=>match ks with
   | []=>match xs,ys with
    | [],[]=>some b
    | _,_=>none
   | _=>match eqE ks xs ys with
    | some c=>some (b && c)
    | none=>none
  | none=>none
 | _,_,_=>none
def notF (x:EV):Option EV :=
 match YA x with
 | some c=>some (.u32 (~~~c))
 | none=>match XL x with
  | some c=>some (.u64 (~~~c))
  | none=>none
def nilP:EV->Option Bool
 | .v (.pointer none)=>some true
 | .rp t=>some t.isNone
 | .pp _ _=>some false
 | .pb _ _=>some false
 | .pz _ _ _ _ _=>some false
 | .own _ _=>some false
 | .po _ _ _ _=>some false
 | _=>none
def Qj8:EV->Bool
 | .v (.pointer none)=>true
 | _=>false
section
variable (tab:TT) (vs:List (Nat×EV)) (bs:List (Nat×EB)) (d:Nat)
abbrev ob_ (r:Nat):EB:=look .dead bs r
def one (C:List Prop) (x:EV):Option RS:=some ⟨C,[(d,x)],[]⟩
def Qj9:Option (List Prop×EV)->Option RS
 | some (C,x)=>some ⟨C,[(d,x)],[]⟩
 | none=>none
def frz (x:Operand):Option (EV×RS) :=
 match x with
 | .tmp t=>match look .any vs t with
  | .osl r n=>match ob_ bs r with
   | .rb l T _=>some (.bs l,⟨[n=l.length],[(t,.bs l)],[(r,.rb l T l.length)]⟩)
   | .rz m sz f T _=>some (.lz m sz f,⟨[n=m],[(t,.lz m sz f)],[(r,.rz m sz f T (m * sz))]⟩)
   | .row cells T sz _=>some (.sl cells n,⟨[],[(t,.sl cells n)],[(r,.row cells T sz cells.length)]⟩)
   | _=>none
  | y=>some (y,⟨[],[],[]⟩)
 | x=>some (Ql vs x,⟨[],[],[]⟩)
def Qbt (ti:TI) (own:Bool) (off:Nat) (cells:List EV):Option (List Prop×EV) :=
 bif ti.agg then (match tkE ti.sz (dpE off cells) with
  | some l=>bif own || shL l then some ([],.agg l) else none
  | none=>none)
 else (match Qdl off cells with
  | some y=>bif own || y.sh then some ([],y) else none
  | none=>none)
def Qnx (ti:TI) (n sz:Nat) (f:Nat->Nat->EV) (i off:Nat):Option (List Prop×EV) :=
 bif Qxp (off+ti.sz) sz && Qxp 1 ti.sz then
  (bif ti.agg then (bif shL (lzE f i ti.sz off) then some ([i < n],.agg (lzE f i ti.sz off)) else none)
  else (match f i off with | y=>bif y.sh then some ([i < n],y) else none))
 else none
def mp1 (ns:List Nat) (x:EV):Option EV:=match x with
 | .osl q m=>match ns[q]? with
  | some r=>some (.osl r m)
  | none=>none
 | x=>bif x.sh then some x else none
def mpL (ns:List Nat):List EV->Option (List EV)
 | []=>some []
 | x::xs=>match mp1 ns x with
  | some y=>match mpL ns xs with
   | some l=>some (y::l)
   | none=>none
  | none=>none
def getA (ti:TI) (n sz:Nat) (f:Nat->Nat->EV) (ns:List Nat) (i off:Nat):Option (List Prop×EV) :=
 bif Qxp (off+ti.sz) sz && Qxp 1 ti.sz then
  (bif ti.agg then (match mpL ns (lzE f i ti.sz off) with | some l=>some ([i < n],.agg l) | none=>none)
  else (match mp1 ns (f i off) with | some y=>some ([i < n],y) | none=>none))
 else none
def noL (i:Nat) (x:EV):Prop:=match x with
 | .osl q _=>q≠i
 | x=>x.sh=true
def rnL:Nat->List EV->Option (List EV×List Nat)
 | _,[]=>some ([],[])
 | k,x::xs=>match x with
  | .osl q m=>match rnL (k+1) xs with
   | some (l,ns)=>some (.osl k m::l,q::ns)
   | none=>none
  | x=>bif x.sh then (match rnL k xs with | some (l,ns)=>some (x::l,ns) | none=>none) else none
def Qf4 (x:EV):Prop:=match x with
 | .osl q _=>q=0
 | x=>x.sh=true
def toL (n:Nat) (x:EV):EV:=match x with
 | .osl _ k=>.osl n k
 | x=>x
def raJ (n:Nat) (f g:Nat->Nat->EV) (a b:Nat):EV:=bif Qxq a n then f a b else toL n (g 0 b)
def Qpy (T:TypeId) (x:EV):Option (List Prop×EV) :=
 match tab.find T with
 | none=>none
 | some ti=>match x with
  | .own r off=>match ob_ bs r with
   | .box cells _=>Qbt ti true off cells
   | .row cells _ _ _=>Qbt ti false off cells
   | .bz n f _=>bif ti.agg then (bif Qxo off 0 && Qxo ti.sz n then some ([],.az n f) else none) else (match f off with | y=>bif y.sh then some ([off < n],y) else none)
   | _=>none
  | .po r s i off=>match ob_ bs r with
   | .rb l _ _=>bif ti.agg then none else (bif Qxo s 1 && Qxo off 0 then some ([i < l.length],.u8 (l.getD i 0)) else none)
   | .rz n sz f _ _=>bif Qxo s sz then Qnx ti n sz f i off else none
   | .row cells _ _ _=>Qbt ti false (i * s+off) cells
   | .ra n sz f _ ns=>bif Qxo s sz then getA ti n sz f ns i off else none
   | _=>none
  | .pp cells off=>Qbt ti false off cells
  | .pb l i=>bif ti.agg then none else some ([i < l.length],.u8 (l.getD i 0))
  | .pz n sz f i off=>Qnx ti n sz f i off
  | _=>none
def stZ (f:Nat->Nat->EV) (i off:Nat) (l:List EV) (a b:Nat):EV:=bif Qxo a i && (Qxp off b && Qxq b (off+l.length)) then l.getD (b - off) .any else f a b
def Qka (T:TypeId) (x y:EV):Option RS :=
 match tab.find T with
 | none=>none
 | some ti=>match x with
  | .own r off=>match ob_ bs r with
   | .bz n f t=>match y with
    | .az m g=>bif Qxo off 0 && Qxo ti.sz n && Qxo m n then some ⟨[∀ i,i < m->ZN (g i)=true/\(g i).sh=true],[],[(r,.bz m g t)]⟩ else none
    | .agg l=>bif Qxo off 0 && Qxo ti.sz n && Qxo l.length n && QL l then some ⟨[],[],[(r,.box l t)]⟩ else none
    | y=>bif Qxo ti.sz 1 && ZN y && y.sh then some ⟨[off < n],[],[(r,.bz n (fun a=>bif Qxo a off then y else f a) t)]⟩ else none
   | .box cells t=>match y with
    | .az m g=>bif Qxo off 0 && Qxo ti.sz m && Qxo cells.length m then some ⟨[∀ i,i < m->ZN (g i)=true/\(g i).sh=true],[],[(r,.bz m g t)]⟩ else none
    | y=>bif Qxo (csE y).length ti.sz && QL (csE y) && Qxp (off+ti.sz) cells.length then (match ptE off cells (csE y) with | some c=>some ⟨[],[],[(r,.box c t)]⟩ | none=>none) else none
   | _=>none
  | .po r s i off=>match ob_ bs r with
   | .rb l t pub=>bif Qxo s 1 && Qxo off 0 && Qxo ti.sz 1 then (match Qbs y with | some c=>some ⟨[i < l.length,pub<=i],[],[(r,.rb (l.set i c) t pub)]⟩ | none=>none) else none
   | .row cells t sz pub=>bif Qxo (csE y).length ti.sz && QL (csE y) && shL (csE y) && Qxp (i * s+off+ti.sz) cells.length then (match ptE (i * s+off) cells (csE y) with | some c=>some ⟨[pub<=i * s+off],[],[(r,.row c t sz pub)]⟩ | none=>none) else none
   | .rz n sz f t pub=>bif Qxo s sz && Qxo (csE y).length ti.sz && QL (csE y) && shL (csE y) && Qxp (off+ti.sz) sz && Qxp 1 ti.sz then some ⟨[i < n,pub<=i * sz+off],[],[(r,.rz n sz (stZ f i off (csE y)) t pub)]⟩ else none
   | .ra n sz f t ns=>bif Qxo s sz && Qxp (off+ti.sz) sz && Qxp 1 ti.sz then (match y with
    | .osl q m=>bif Qxo ti.sz 1 && Qxq i ns.length then some ⟨[i < n,∀ a,a < n -> ∀ b,b < sz->(a=i/\b=off)\/noL i (f a b)],[],[(r,.ra n sz (stZ f i off [.osl i m]) t (ns.set i q))]⟩ else none
    | y=>bif Qxo (csE y).length ti.sz && QL (csE y) && shL (csE y) then some ⟨[i < n],[],[(r,.ra n sz (stZ f i off (csE y)) t ns)]⟩ else none) else none
   | _=>none
  | _=>none
def fldF (T f:Nat) (x:EV):Option EV :=
 match tab.find T with
 | some ⟨.st pl,_,_,_,_⟩=>match pl[f]? with
  | some (o,.succ s,_)=>match x with
   | .own r off=>some (.own r (off+o))
   | .pp cells off=>some (.pp cells (off+o))
   | .po r s i off=>some (.po r s i (off+o))
   | .pz n s f i off=>some (.pz n s f i (off+o))
   | _=>none
  | _=>none
 | _=>none
def Qpz (T:TypeId) (x y:EV):Option (List Prop×EV) :=
 match YV y with
 | none=>none
 | some (_,i)=>match tab.find T with
  | some ⟨.sl _ s _ _,_,_,_,_⟩=>match x with
   | .bs l=>bif Qxo s 1 then some ([0<=i/\i < (l.length:Int)],.pb l i.toNat) else none
   | .lz n sz f=>bif Qxo s sz then some ([0<=i/\i < (n:Int)],.pz n sz f i.toNat 0) else none
   | .sl cells n=>some ([0<=i/\i < (n:Int)],.pp cells (i.toNat * s))
   | .osl r n=>some ([0<=i/\i < (n:Int)],.po r s i.toNat 0)
   | _=>none
  | some ⟨.ar n s _,_,_,_,_⟩=>match x with
   | .own r off=>some ([0<=i/\i < (n:Int)],.own r (off+i.toNat * s))
   | .pp cells off=>some ([0<=i/\i < (n:Int)],.pp cells (off+i.toNat * s))
   | _=>none
  | _=>none
def atF (T:TypeId) (x y:EV):Option (List Prop×EV) :=
 match YV y with
 | none=>none
 | some (_,i)=>match tab.find T with
  | some ⟨.str,_,_,_,_⟩=>match asS x with
   | some l=>some ([0<=i/\i < (l.length:Int)],.u8 (l.getD i.toNat 0))
   | none=>none
  | some ⟨.ar n 1 e,_,_,_,_⟩=>match tab.find e with
   | some ⟨_,false,_,_,_⟩=>match x with
    | .agg l=>match Qdl i.toNat l with
     | some y=>some ([0<=i/\i < (n:Int)],y)
     | none=>none
    | .az m f=>match f i.toNat with | y=>bif y.sh && Qxo m n then some ([0<=i/\i < (n:Int)],y) else none
    | _=>none
   | _=>none
  | some ⟨.ar n s e,_,_,_,_⟩=>match tab.find e with
   | some ⟨_,true,_,_,_⟩=>match x with
    | .agg l=>match tkE s (dpE (i.toNat * s) l) with
     | some y=>some ([0<=i/\i < (n:Int)],.agg y)
     | none=>none
    | _=>none
   | _=>none
  | _=>none
def cutF (T:TypeId) (x:EV) (lo hi:Option EV):Option (List Prop×EV) :=
 match (match lo with | none=>some none | some y=>(YV y).map fun p=>some p.2),(match hi with | none=>some none | some y=>(YV y).map fun p=>some p.2) with
 | some lo,some hi=>match tab.find T with
  | some ⟨.str,_,_,_,_⟩=>match asS x with
   | some l=>match lo,hi with
    | some i,none=>some ([0<=i/\i<=(l.length:Int)],.s (l.drop i.toNat))
    | none,some j=>some ([0<=j/\j<=(l.length:Int)],.s (l.take j.toNat))
    | some i,some j=>some ([0<=i/\i<=j/\j<=(l.length:Int)],.s ((l.drop i.toNat).take (j.toNat - i.toNat)))
    | none,none=>none
   | none=>none
  | some ⟨.sl _ s _ _,_,_,_,_⟩=>match x with
   | .bs l=>bif Qxo s 1 then (match lo,hi with
    | some i,none=>some ([0<=i/\i<=(l.length:Int)],.bs (l.drop i.toNat))
    | none,some j=>some ([0<=j/\j<=(l.length:Int)],.bs (l.take j.toNat))
    | some i,some j=>some ([0<=i/\i<=j/\j<=(l.length:Int)],.bs ((l.drop i.toNat).take (j.toNat - i.toNat)))
    | none,none=>none) else none
   | .lz n sz f=>bif Qxo s sz then (match lo,hi with
    | some i,none=>some ([0<=i/\i<=(n:Int)],.lz (n - i.toNat) sz (fun a b=>f (i.toNat+a) b))
    | none,some j=>some ([0<=j/\j<=(n:Int)],.lz j.toNat sz f)
    | some i,some j=>some ([0<=i/\i<=j/\j<=(n:Int)],.lz (j.toNat - i.toNat) sz (fun a b=>f (i.toNat+a) b))
    | none,none=>none) else none
   | _=>none
  | _=>none
 | _,_=>none
def QpA (x:EV):Option Int :=
 match x with
 | .bs l=>some (l.length:Int)
 | .lz n _ _=>some (n:Int)
 | .sl _ n=>some (n:Int)
 | .osl _ n=>some (n:Int)
 | .v (.slice _ m _)=>some (m:Int)
 | .v (.string ⟨⟨l⟩⟩)=>some (l.length:Int)
 | _=>none
inductive SrcE where
 | by_ (l:List UInt8)
 | lz (n sz:Nat) (f:Nat->Nat->EV)
 | cs (l:List EV) (n:Nat)
def srcF (sz:Nat) (y:EV):Option (List Prop×SrcE) :=
 match y with
 | .bs l=>some ([],.by_ l)
 | .lz n sz f=>some ([],.lz n sz f)
 | .sl l n=>some ([],.cs l n)
 | .v (.slice none 0 0)=>some ([],.cs [] 0)
 | .osl r n=>match ob_ bs r with
  | .rb l _ _=>some ([n=l.length],.by_ l)
  | .rz m sz f _ _=>some ([n=m],.lz m sz f)
  | .row l _ z _=>bif Qxo z sz then some ([],.cs l n) else none
  | _=>none
 | _=>none
def nmB (d:Nat):Nat:=1000+d
def Qf5 (T:TypeId):Option RS :=
 match tab.find T with
 | some ⟨_,_,_,some z,_⟩=>some ⟨[],[(d,.own (nmB d) 0)],[(nmB d,.box (vsE z) T)]⟩
 | _=>none
def Qs7 (T:TypeId) (x:EV):Option RS:=match x with
 | .az n f=>some ⟨[∀ i,i < n->ZN (f i)=true/\(f i).sh=true],[(d,.own (nmB d) 0)],[(nmB d,.bz n f T)]⟩
 | x=>bif QL (csE x) then some ⟨[],[(d,.own (nmB d) 0)],[(nmB d,.box (csE x) T)]⟩ else none
def YW:List (Nat×Operand)->List (Nat×EV)
 | []=>[]
 | (i,x)::l=>(i,Ql vs x)::YW l
def Qkb (T:TypeId) (parts:List (Nat×Operand)):Option RS :=
 match tab.find T with
 | some ⟨.st pl,_,_,some z,_⟩=>match Qe2 pl (vsE z) (YW vs parts) with
  | some l=>some ⟨[],[(d,.agg l)],[]⟩
  | none=>none
 | some ⟨.ar n s e,_,_,some z,_⟩=>match Qe2 (Qs6 s n 0) (vsE z) (YW vs parts) with
  | some l=>some ⟨[],[(d,.agg l)],[]⟩
  | none=>none
 | _=>none
def Qbu (e sz by_:Nat) (z:List Value):Bool:=match tab.find e with
 | some ⟨.int .u8,_,_,_,_⟩=>Qxo sz 1 && Qxp by_ 10000 && (match z with
  | [.int .u8 (.ofNat 0)]=>true
  | _=>false)
 | _=>false
def QeL:List EV->Option (List UInt8)
 | []=>some []
 | .u8 c::l=>match QeL l with | some m=>some (c::m) | none=>none
 | .v (.int .u8 (.ofNat m))::l=>bif Qxq m 256 then (match QeL l with | some q=>some (Qxu m::q) | none=>none) else none
 | _::_=>none
def Yp (T:TypeId) (len:Nat) (parts:List (Nat×Operand)):Option RS :=
 match tab.find T with
 | some ⟨.sl e sz by_ z,_,_,_,_⟩=>match Qpx sz 0 (YW vs parts) with
  | some l=>bif Qxo parts.length len && Qxp (len * sz) 1000000 then
    (match QeL l with
    | some q=>bif Qbu tab e sz by_ z then some ⟨[],[(d,.osl (nmB d) len)],[(nmB d,.rb q e 0)]⟩ else some ⟨[],[(d,.osl (nmB d) len)],[(nmB d,.row l e sz 0)]⟩
    | none=>some ⟨[],[(d,.osl (nmB d) len)],[(nmB d,.row l e sz 0)]⟩) else none
  | none=>match parts with
   | [(0,x)]=>match rnL 0 (csE (Ql vs x)) with
    | some (l,ns)=>bif Qxo len 1 && Qxo (csE (Ql vs x)).length sz && QL (csE (Ql vs x)) && Qxp sz 1000000 && !ns.contains (nmB d) then some ⟨[],[(d,.osl (nmB d) len)],[(nmB d,.ra 1 sz (fun _ j=>l.getD j .any) e ns)]⟩ else none
    | none=>none
   | _=>none
 | _=>none
def zF (z:List Value) (_ j:Nat):EV:=.v (z.getD j undef)
def QhD (T:TypeId) (x y:EV):Option RS :=
 match ZV x,ZV y with
 | some i,some j=>match tab.find T with
  | some ⟨.sl e sz by_ z,_,_,_,_⟩ =>
   bif Qbu tab e sz by_ z then some ⟨[0<=i/\i<=j/\j<=1000000000],[(d,.osl (nmB d) i.toNat)],[(nmB d,.rb (List.replicate i.toNat 0) e 0)]⟩
   else bif Qxp by_ 10000 then some ⟨[0<=i/\i<=j/\j<=1000000000],[(d,.osl (nmB d) i.toNat)],[(nmB d,.rz i.toNat sz (zF z) e 0)]⟩ else none
  | _=>none
 | _,_=>none
def Qkc (s:Nat):Nat->List EV->Option Nat
 | k,[]=>bif Qxo (k+1) s then some 0 else none
 | 0,_::l=>match Qkc s (s - 1) l with
  | some q=>some (q+1)
  | none=>none
 | k+1,_::l=>Qkc s k l
theorem Qf6 {s:Nat} (hs:0 < s):∀ {l:List EV} {k q:Nat},k < s->Qkc s k l=some q->l.length+(s - 1 - k)=q * s
 | [],k,q,hk,h=>by
  unfold Qkc at h
  cases hb:Qxo (k+1) s with
  | false=>rw [hb] at h;cases h
  | true=>rw [hb] at h;cases h;have:=Nat.eq_of_beq_eq_true hb;simp;omega
 | x::l,0,q,hk,h=>by
  unfold Qkc at h;split at h
  ·next q' hq =>
   cases h;have:=Qf6 hs (l:=l) (k:=s - 1) (by omega) hq;rw [Nat.add_mul,List.length_cons];omega
  ·cases h
 | x::l,k+1,q,hk,h=>by
  unfold Qkc at h;have:=Qf6 hs (l:=l) (k:=k) (by omega) h;rw [List.length_cons];omega
def QpB (t:TypeId) (sz pub:Nat):EB->SrcE->Option EB
 | .rb l _ _,.by_ m=>some (.rb (l++m) t pub)
 | .rb l _ _,.cs c _=>match QeL c with
  | some m=>some (.rb (l++m) t pub)
  | none=>none
 | .row l _ _ _,.cs m _=>some (.row (l++m) t sz pub)
 | .rz n sz' f _ _,.cs m k=>bif Qxo sz' sz then some (.rz (n+k) sz (fun i j=>bif Qxq i n then f i j else m.getD ((i - n) * sz+j) .any) t pub) else none
 | .rz n sz' f _ _,.lz k sz'' g=>bif Qxo sz' sz && Qxo sz'' sz then some (.rz (n+k) sz (fun i j=>bif Qxq i n then f i j else g (i - n) j) t pub) else none
 | .row l _ _ _,.lz k sz'' g=>match Qkc sz (sz - 1) l with
  | some q=>bif Qxo sz'' sz && Qxq 0 sz then some (.rz (q+k) sz (fun i j=>bif Qxq i q then l.getD (i * sz+j) .any else g (i - q) j) t pub) else none
  | none=>none
 | _,_=>none
def Qs8 (t:TypeId) (sz:Nat):SrcE->EB
 | .by_ m=>.rb m t 0
 | .lz n z f=>.rz n z f t 0
 | .cs m _=>.row m t sz 0
def SrcE.len:SrcE->Nat
 | .by_ m=>m.length
 | .lz n _ _=>n
 | .cs _ n=>n
def SrcE.szOk (sz:Nat):SrcE->Bool
 | .by_ _=>Qxo sz 1
 | .lz _ z _=>Qxo z sz
 | .cs _ _=>true
def SrcE.okC (sz:Nat):SrcE->List Prop
 | .cs m n=>[m.length=n * sz]
 | _=>[]
def EB.lenC (sz n:Nat):EB->List Prop
 | .rb l _ _=>[n=l.length]
 | .rz m _ _ _ _=>[n=m]
 | .row m _ _ _=>[n * sz=m.length]
 | _=>[False]
def EB.pub:EB->Nat
 | .rb _ _ p=>p
 | .rz _ _ _ _ p=>p
 | .row _ _ _ p=>p
 | _=>0
def EB.okSz (sz:Nat) (e:TypeId):EB->Bool
 | .rb _ t _=>Qxo sz 1 && Qxo t e
 | .rz _ z _ t _=>Qxo z sz && Qxo t e
 | .row _ t z _=>Qxo z sz && Qxo t e
 | _=>false
def nmZ (d:Nat):Nat:=500000+d
def raA (e sz:Nat) (x y:EV):Option RS :=
 match x with
 | .osl r m=>match y with
  | .osl r2 m2=>match ob_ bs r with
   | .ra n z f t ns=>match ob_ bs r2 with
    | .ra n2 z2 f2 t2 ns2=>match ns2 with
     | [q]=>bif Qxo z sz && Qxo z2 sz && Qxo n2 1 && Qxo m2 1 && Qxo t e && Qxq n ns.length && !(ns.set n q).contains (nmB d) then
       some ⟨[m=n,n<=1000000,∀ a,a < n -> ∀ b,b < sz->noL n (f a b),∀ b,b < sz->Qf4 (f2 0 b)],[(d,.osl (nmB d) (n+1))],[(nmB d,.ra (n+1) sz (raJ n f f2) e (ns.set n q)),(r,.dead)]⟩ else none
     | _=>none
    | _=>none
   | _=>none
  | _=>none
 | _=>none
def Qf7 (T:TypeId) (x y:EV):Option RS :=
 match tab.find T with
 | some ⟨.sl e sz by_ _,_,_,_,_⟩=>bif Qxp by_ 10000 && Qxp 1 sz then (match srcF bs sz y with
  | some (C,src)=>bif src.szOk sz then (match x with
   | .osl r n=>bif (ob_ bs r).okSz sz e then (match QpB e sz (ob_ bs r).pub (ob_ bs r) src with
    | some eb=>some ⟨C++(src.okC sz++((ob_ bs r).lenC sz n++[n+src.len<=1000000000])),[(d,.osl (nmB d) (n+src.len))],[(nmB d,eb),(r,.dead)]⟩
    | none=>none) else none
   | .v (.slice none 0 0)=>some ⟨C++(src.okC sz++[src.len<=1000000000]),[(d,.osl (nmB d) src.len)],[(nmB d,Qs8 e sz src),(nmZ d,.dead)]⟩
   | _=>none) else none
  | none=>raA bs d e sz x y) else none
 | _=>none
def Qdm (T T':TypeId) (x:Operand):Option RS :=
 match tab.find T,tab.find T' with
 | some ⟨k,_,_,_,_⟩,some ⟨k',_,_,_,_⟩=>match k' with
  | .int k2=>match Qpw k2 (Ql vs x) with
   | some y=>some ⟨[],[(d,y)],[]⟩
   | none=>none
  | .str=>match k with
   | .str=>match asS (Ql vs x) with
    | some l=>some ⟨[],[(d,.s l)],[]⟩
    | none=>none
   | .sl e sz by_ z=>bif Qbu tab e sz by_ z then (match frz vs bs x with
    | some (.bs l,R)=>some ⟨R.C,(d,.s l)::R.sl,R.hp⟩
    | some (.v (.slice none 0 0),R)=>some ⟨R.C,(d,.s [])::R.sl,R.hp⟩
    | _=>none) else none
   | _=>none
  | .sl e sz by_ z=>match k with
   | .str=>bif Qbu tab e sz by_ z && Qxo e 5 then (match asS (Ql vs x) with
    | some l=>some ⟨[l.length<=1000000000],[(d,.osl (nmB d) l.length)],[(nmB d,.rb l e 0)]⟩
    | none=>none) else none
   | .sl _ _ _ _=>bif Qxo T T' && Qbu tab e sz by_ z then (match Ql vs x with
    | .osl r n=>match ob_ bs r with
     | .rb _ t _=>bif Qxo t 5 then some ⟨[0 < n],[(d,.osl r n)],[]⟩ else none
     | _=>none
    | _=>none) else none
   | _=>none
  | _=>none
 | _,_=>none
def optE:Option Operand->Option EV
 | none=>none
 | some x=>some (Ql vs x)
def Qkd (T:TypeId) (x:Operand) (lo hi:Option Operand):Option RS :=
 match frz vs bs x with
 | some (y,R)=>match cutF tab T y (optE vs lo) (optE vs hi) with
  | some (C,z)=>some ⟨R.C++C,(d,z)::R.sl,R.hp⟩
  | none=>none
 | none=>none
def Qdn (b:Builtin) (args:List Operand) (ty:TypeId) (argTypes:List TypeId):Option RS :=
 match b,args,argTypes with
 | .len,[x],[T]=>match tab.find T with
  | some ⟨.sl _ _ _ _,_,_,_,_⟩=>match asS (Ql vs x) with
   | some _=>none
   | none=>match QpA (Ql vs x) with
    | some z=>some ⟨[],[(d,.i z)],[]⟩
    | none=>none
  | some ⟨.str,_,_,_,_⟩=>match asS (Ql vs x) with
   | some l=>some ⟨[],[(d,.i (l.length:Int))],[]⟩
   | none=>none
  | some ⟨.mp _ _,_,_,_,_⟩=>match Ql vs x with
   | .mref r=>match ob_ bs r with
    | .mp es=>some ⟨[],[(d,.i (es.length:Int))],[]⟩
    | _=>none
   | _=>none
  | _=>none
 | .copy,[x,y],[T,_]=>match tab.find T with
  | some ⟨.sl e s _ _,_,_,_,_⟩=>bif Qxo s 1 then (match Ql vs x with
   | .osl r n=>match ob_ bs r with
    | .rb l t pub=>bif Qxo t e then (match (match asS (Ql vs y) with | some m=>some m | none=>(match Ql vs y with | .bs m=>some m | _=>none)) with
     | some m=>some ⟨[n=l.length,0 < n,pub=0],[(d,.i (Nat.min m.length n:Nat))],[(r,.rb (m.take n++l.drop (m.take n).length) t pub)]⟩
     | none=>none) else none
    | _=>none
   | _=>none) else none
  | _=>none
 | .append,[x,y],[T,T']=>bif Qxo T T' then Qf7 tab bs d T (Ql vs x) (Ql vs y) else none
 | .min,[x,y],[_,_]=>match tab.find ty with
  | some ⟨.int .i64,_,_,_,_⟩=>match ZV (Ql vs x),ZV (Ql vs y) with
   | some i,some j=>some ⟨[],[(d,.i (min i j))],[]⟩
   | _,_=>none
  | some ⟨.str,_,_,_,_⟩=>match asS (Ql vs x),asS (Ql vs y) with
   | some i,some j=>some ⟨[],[(d,.s (bif Op.bytesLess i j || decide (i=j) then i else j))],[]⟩
   | _,_=>none
  | _=>none
 | .max,[x,y],[_,_]=>match tab.find ty with
  | some ⟨.int .i64,_,_,_,_⟩=>match ZV (Ql vs x),ZV (Ql vs y) with
   | some i,some j=>some ⟨[],[(d,.i (max i j))],[]⟩
   | _,_=>none
  | some ⟨.int .u8,_,_,_,_⟩=>match Qbs (Ql vs x),Qbs (Ql vs y) with
   | some i,some j=>some ⟨[],[(d,.u8 (if i < j then j else i))],[]⟩
   | _,_=>none
  | some ⟨.str,_,_,_,_⟩=>match asS (Ql vs x),asS (Ql vs y) with
   | some i,some j=>some ⟨[],[(d,.s (bif Op.bytesLess i j then j else i))],[]⟩
   | _,_=>none
  | _=>none
 | _,_,_=>none
def opF (wr:Bool) (ty:TypeId):Op->Option RS
 | .move x=>(Ql vs x).fc fun y=>some ⟨[],[(d,y)],[]⟩
 | .assign x=>(Ql vs x).fc fun y=>some ⟨[],[(d,y)],[]⟩
 | .unOp .not _ x=>match asB (Ql vs x) with
  | some g=>some ⟨[],[(d,.b (!g))],[]⟩
  | none=>none
 | .unOp .neg _ x=>match ZV (Ql vs x) with
  | some i=>Qj9 d (arF wr (-i))
  | none=>none
 | .unOp .xor _ x=>match notF (Ql vs x) with
  | some y=>some ⟨[],[(d,y)],[]⟩
  | none=>none
 | .binOp op T x y _=>match tab.find T with
  | some ⟨.bool,_,_,_,_⟩=>match asB (Ql vs x),asB (Ql vs y) with
   | some i,some j=>match Qpu i j op with
    | some z=>some ⟨[],[(d,z)],[]⟩
    | none=>none
   | _,_=>none
  | some ⟨.ptr,_,_,_,_⟩=>bif Qj8 (Ql vs y) then (match nilP (Ql vs x) with
   | some b=>match op with
    | .eql=>some ⟨[],[(d,.b b)],[]⟩
    | .neq=>some ⟨[],[(d,.b (!b))],[]⟩
    | _=>none
   | none=>none) else none
  | some ⟨.st _,true,_,_,some ks⟩=>match Ql vs x,Ql vs y with
   | .agg xs,.agg ys=>match eqE ks xs ys with
    | some b=>match op with
     | .eql=>some ⟨[],[(d,.b b)],[]⟩
     | .neq=>some ⟨[],[(d,.b (!b))],[]⟩
     | _=>none
    | none=>none
   | _,_=>none
  | _=>Qj9 d (binF wr op (Ql vs x) (Ql vs y))
 | .convert T T' x=>Qdm tab vs bs d T T' x
 | .alloc T=>Qf5 tab d T
 | .box T x=>Qs7 d T (Ql vs x)
 | .build T parts=>Qkb tab vs d T parts.toList
 | .buildSlice T len parts=>Yp tab vs d T len parts.toList
 | .makeSlice T x y=>QhD tab d T (Ql vs x) (Ql vs y)
 | .load T x=>Qj9 d (Qpy tab bs T (Ql vs x))
 | .nilCheck x=>match Ql vs x with
  | .own r o=>some ⟨[],[(d,.own r o)],[]⟩
  | .pp c o=>some ⟨[],[(d,.pp c o)],[]⟩
  | .po r s i o=>some ⟨[],[(d,.po r s i o)],[]⟩
  | .pz n s f i o=>some ⟨[],[(d,.pz n s f i o)],[]⟩
  | _=>none
 | .fieldAddr T x f=>match fldF tab T f (Ql vs x) with
  | some y=>some ⟨[],[(d,y)],[]⟩
  | none=>none
 | .indexAddr T x y=>Qj9 d (Qpz tab T (Ql vs x) (Ql vs y))
 | .index T x y=>Qj9 d (atF tab T (Ql vs x) (Ql vs y))
 | .slice T x lo hi none=>Qkd tab vs bs d T x lo hi
 | .extract x i=>match Ql vs x with
  | .tup l=>match Qdl i l with
   | some y=>some ⟨[],[(d,y)],[]⟩
   | none=>none
  | _=>none
 | .field T x f=>match tab.find T with
  | some ⟨.st pl,_,_,_,_⟩=>match pl[f]? with
   | some (o,_,true)=>match Ql vs x with
    | .agg l=>match Qdl o l with
     | some y=>some ⟨[],[(d,y)],[]⟩
     | none=>none
    | _=>none
   | _=>none
  | _=>none
 | .call c=>match c.callee with
  | .builtin b=>Qdn tab vs bs d b c.args.toList ty c.argTypes.toList
  | _=>none
 | _=>none
end
end
end Go.Proofs.YtcebndkiagbddaaGreatDoor
