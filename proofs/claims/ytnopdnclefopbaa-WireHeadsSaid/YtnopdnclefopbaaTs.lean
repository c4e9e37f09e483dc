/- One operation, computed over typed values: what it asks for (C), the slots and the blocks that it makes. It names no function of the program. -/
import Derived.Test.YtnopdnclefopbaaTv
namespace Go.Proofs.Ytnopdnclefopbaa
open Go.RowKit
set_option linter.unusedVariables false
set_option linter.unusedSimpArgs false

/-- A value, worked out up to its head. -/
def EV.fc {α : Type} (k : EV → α) : EV → α
  | .v x => k (.v x)
  | .u8 c => k (.u8 c)
  | .u32 c => k (.u32 c)
  | .u64 c => k (.u64 c)
  | .az n f => k (.az n f)
  | .bs l => k (.bs l)
  | .lz n sz f => k (.lz n sz f)
  | .agg l => k (.agg l)
  | .tup l => k (.tup l)
  | .pp c o => k (.pp c o)
  | .pb l i => k (.pb l i)
  | .pz n sz f i o => k (.pz n sz f i o)
  | .raw x => k (.raw x)
  | .sl c n => k (.sl c n)
  | .po r s i o => k (.po r s i o)
  | .own r o => k (.own r o)
  | .osl r n => k (.osl r n)
  | .cnd g x => k (.cnd g x)
  | .any => k .any
theorem EV.fc_eq {α : Type} (k : EV → α) (x : EV) : x.fc k = k x := by cases x <;> rfl
/-- Two lists, put together and worked out. -/
def appK {α β : Type} (k : List α → β) (m : List α) : List α → β
  | [] => k m
  | x :: l => appK (fun m' => k (x :: m')) m l
theorem appK_eq {α β : Type} (m : List α) : ∀ (l : List α) (k : List α → β), appK k m l = k (l ++ m)
  | [], k => rfl
  | x :: l, k => appK_eq m l _
structure RS where
  C : List Prop
  sl : List (Nat × EV)
  hp : List (Nat × EB)
def asI64 : EV → Option Int
  | .v (.int .i64 i) => some i
  | _ => none
def asInt : EV → Option (IntKind × Int)
  | .v (.int k i) => some (k, i)
  | .u8 c => some (.u8, (c.toNat : Int))
  | .u32 c => some (.u32, (c.toNat : Int))
  | .u64 c => some (.u64, (c.toNat : Int))
  | _ => none
def asB : EV → Option Bool
  | .v (.bool g) => some g
  | _ => none
def asS : EV → Option (List UInt8)
  | .v (.string ⟨⟨l⟩⟩) => some l
  | _ => none
def asU8 : EV → Option UInt8
  | .u8 c => some c
  | .v (.int .u8 (.ofNat m)) => bif Nat.blt m 256 then some (UInt8.ofNat m) else none
  | _ => none
def asU32 : EV → Option UInt32
  | .u32 c => some c
  | .v (.int .u32 (.ofNat m)) => bif Nat.blt m 4294967296 then some (UInt32.ofNat m) else none
  | _ => none
def asU64 : EV → Option UInt64
  | .u64 c => some c
  | .v (.int .u64 (.ofNat m)) => bif Nat.blt m 18446744073709551616 then some (UInt64.ofNat m) else none
  | _ => none
def arF (wr : Bool) (x : Int) : Option (List Prop × EV) := bif wr then some ([], .i (IntKind.i64.wrap x)) else some ([-9223372036854775808 ≤ x ∧ x ≤ 9223372036854775807], .i x)
def intF (wr : Bool) (i j : Int) : BinOp → Option (List Prop × EV)
  | .lss => some ([], .b (decide (i < j)))
  | .leq => some ([], .b (decide (i ≤ j)))
  | .gtr => some ([], .b (decide (j < i)))
  | .geq => some ([], .b (decide (j ≤ i)))
  | .eql => some ([], .b (decide (i = j)))
  | .neq => some ([], .b (!decide (i = j)))
  | .add => arF wr (i + j)
  | .sub => arF wr (i - j)
  | .mul => arF wr (i * j)
  | .quo => some ([0 ≤ i ∧ 0 < j, i ≤ 9223372036854775807], .i (i / j))
  | .rem => some ([0 ≤ i ∧ 0 < j], .i (i % j))
  | .or => some ([], .i (IntKind.i64.wrap ((BitVec.ofInt 64 i ||| BitVec.ofInt 64 j).toNat : Int)))
  | .and => some ([], .i (IntKind.i64.wrap ((BitVec.ofInt 64 i &&& BitVec.ofInt 64 j).toNat : Int)))
  | .xor => some ([], .i (IntKind.i64.wrap ((BitVec.ofInt 64 i ^^^ BitVec.ofInt 64 j).toNat : Int)))
  | _ => none
def u8F (i j : UInt8) : BinOp → Option EV
  | .lss => some (.b (decide (i.toNat < j.toNat)))
  | .leq => some (.b (decide (i.toNat ≤ j.toNat)))
  | .gtr => some (.b (decide (j.toNat < i.toNat)))
  | .geq => some (.b (decide (j.toNat ≤ i.toNat)))
  | .eql => some (.b (decide (i = j)))
  | .neq => some (.b (!decide (i = j)))
  | .add => some (.u8 (i + j))
  | .sub => some (.u8 (i - j))
  | .and => some (.u8 (i &&& j))
  | .or => some (.u8 (i ||| j))
  | .xor => some (.u8 (i ^^^ j))
  | _ => none
def u32F (i j : UInt32) : BinOp → Option EV
  | .lss => some (.b (decide (i.toNat < j.toNat)))
  | .leq => some (.b (decide (i.toNat ≤ j.toNat)))
  | .gtr => some (.b (decide (j.toNat < i.toNat)))
  | .geq => some (.b (decide (j.toNat ≤ i.toNat)))
  | .eql => some (.b (decide (i = j)))
  | .neq => some (.b (!decide (i = j)))
  | .add => some (.u32 (i + j))
  | .sub => some (.u32 (i - j))
  | .and => some (.u32 (i &&& j))
  | .or => some (.u32 (i ||| j))
  | .xor => some (.u32 (i ^^^ j))
  | .andNot => some (.u32 (i &&& ~~~j))
  | _ => none
def u64F (i j : UInt64) : BinOp → Option EV
  | .lss => some (.b (decide (i.toNat < j.toNat)))
  | .leq => some (.b (decide (i.toNat ≤ j.toNat)))
  | .gtr => some (.b (decide (j.toNat < i.toNat)))
  | .geq => some (.b (decide (j.toNat ≤ i.toNat)))
  | .eql => some (.b (decide (i = j)))
  | .neq => some (.b (!decide (i = j)))
  | .add => some (.u64 (i + j))
  | .sub => some (.u64 (i - j))
  | .and => some (.u64 (i &&& j))
  | .or => some (.u64 (i ||| j))
  | .xor => some (.u64 (i ^^^ j))
  | .andNot => some (.u64 (i &&& ~~~j))
  | _ => none
def strF (l m : List UInt8) : BinOp → Option (List Prop × EV)
  | .add => some ([l.length + m.length ≤ 9223372036854775807], .s (l ++ m))
  | .eql => some ([], .b (decide (l = m)))
  | .neq => some ([], .b (!decide (l = m)))
  | .lss => some ([], .b (Op.bytesLess l m))
  | .leq => some ([], .b (Op.bytesLess l m || decide (l = m)))
  | .gtr => some ([], .b (!(Op.bytesLess l m || decide (l = m))))
  | .geq => some ([], .b (!Op.bytesLess l m))
  | _ => none
def boolF (g q : Bool) : BinOp → Option EV
  | .eql => some (.b (g == q))
  | .neq => some (.b (!(g == q)))
  | _ => none
/-- A word shifted. -/
def shl32 (c : UInt32) (n : Nat) : UInt32 := UInt32.ofNat (c.toNat <<< n)
def shr32 (c : UInt32) (n : Nat) : UInt32 := UInt32.ofNat (c.toNat >>> n)
def shl64 (c : UInt64) (n : Nat) : UInt64 := UInt64.ofNat (c.toNat * 2 ^ min n 64)
def shr64 (c : UInt64) (n : Nat) : UInt64 := UInt64.ofNat (c.toNat / 2 ^ min n 64)
def shF (op : BinOp) (x y : EV) : Option (List Prop × EV) :=
  match asInt y with
  | none => none
  | some (_, j) => match asU32 x with
    | some c => match op with
      | .shl => some ([0 ≤ j ∧ j ≤ 32], .u32 (shl32 c j.toNat))
      | .shr => some ([0 ≤ j ∧ j ≤ 32], .u32 (shr32 c j.toNat))
      | _ => none
    | none => match asI64 x with
      | some i => match op with
        | .shr => some ([0 ≤ j ∧ j ≤ 63], .i (i / 2 ^ j.toNat))
        | .shl => some ([0 ≤ j ∧ j ≤ 63], .i (IntKind.i64.wrap (i * 2 ^ j.toNat)))
        | _ => none
      | none => match asU64 x with
        | some c => match op with
          | .shl => some ([0 ≤ j], .u64 (shl64 c j.toNat))
          | .shr => some ([0 ≤ j], .u64 (shr64 c j.toNat))
          | _ => none
        | none => none
def binF (wr : Bool) (op : BinOp) (x y : EV) : Option (List Prop × EV) :=
  match op with
  | .shl => shF .shl x y
  | .shr => shF .shr x y
  | op => match asI64 x, asI64 y with
    | some i, some j => intF wr i j op
    | _, _ => match asU8 x, asU8 y with
      | some i, some j => (u8F i j op).map fun z => ([], z)
      | _, _ => match asU32 x, asU32 y with
        | some i, some j => (u32F i j op).map fun z => ([], z)
        | _, _ => match asS x, asS y with
          | some i, some j => strF i j op
          | _, _ => match asU64 x, asU64 y with
            | some i, some j => (u64F i j op).map fun z => ([], z)
            | _, _ => none
/-- A number in another kind. -/
def convF (k' : IntKind) (x : EV) : Option EV :=
  match k' with
  | .u8 => match x with
    | .u32 c => some (.u8 (UInt8.ofNat c.toNat))
    | .u64 c => some (.u8 (UInt8.ofNat c.toNat))
    | .u8 c => some (.u8 c)
    | .v (.int _ i) => some (.u8 (u8of i))
    | _ => none
  | .u32 => match x with
    | .u8 c => some (.u32 (UInt32.ofNat c.toNat))
    | .u32 c => some (.u32 c)
    | .u64 c => some (.u32 (UInt32.ofNat c.toNat))
    | .v (.int _ i) => some (.u32 (UInt32.ofNat (i % 4294967296).toNat))
    | _ => none
  | .u64 => match x with
    | .u8 c => some (.u64 (UInt64.ofNat c.toNat))
    | .u32 c => some (.u64 (UInt64.ofNat c.toNat))
    | .u64 c => some (.u64 c)
    | .v (.int _ i) => some (.u64 (UInt64.ofNat (i % 18446744073709551616).toNat))
    | _ => none
  | .i64 => match x with
    | .u8 c => some (.i (c.toNat : Int))
    | .u32 c => some (.i (c.toNat : Int))
    | .u64 c => some (.i (IntKind.i64.wrap (c.toNat : Int)))
    | .v (.int .i64 i) => some (.i (IntKind.i64.wrap i))
    | .v (.int .u64 i) => some (.i (IntKind.i64.wrap i))
    | _ => none
  | k' => match x with
    | .u8 c => some (.v (.int k' (k'.wrap (c.toNat : Int))))
    | .u32 c => some (.v (.int k' (k'.wrap (c.toNat : Int))))
    | .v (.int _ i) => some (.v (.int k' (k'.wrap i)))
    | _ => none
/-- The first n of a list. -/
def tkE : Nat → List EV → Option (List EV)
  | 0, _ => some []
  | _ + 1, [] => none
  | n + 1, x :: xs => match tkE n xs with
    | some ys => some (x :: ys)
    | none => none
def dpE : Nat → List EV → List EV
  | 0, l => l
  | _ + 1, [] => []
  | n + 1, _ :: xs => dpE n xs
def ptE : Nat → List EV → List EV → Option (List EV)
  | _, l, [] => some l
  | _, [], _ :: _ => none
  | 0, _ :: l, x :: xs => match ptE 0 l xs with
    | some ys => some (x :: ys)
    | none => none
  | n + 1, y :: l, xs => match ptE n l xs with
    | some ys => some (y :: ys)
    | none => none
def nthE : Nat → List EV → Option EV
  | _, [] => none
  | 0, x :: _ => some x
  | n + 1, _ :: xs => nthE n xs
def csE : EV → List EV
  | .agg l => l
  | x => [x]
def oneE : EV → Bool
  | .v u => u.oneCell'
  | .u8 _ => true
  | .u32 _ => true
  | .u64 _ => true
  | .bs _ => true
  | .lz _ _ _ => true
  | .sl _ _ => true
  | .pp _ _ => true
  | .pb _ _ => true
  | .pz _ _ _ _ _ => true
  | .own _ _ => true
  | .po _ _ _ _ => true
  | .osl _ _ => true
  | _ => false
def onesE : List EV → Bool
  | [] => true
  | x :: xs => oneE x && onesE xs
def vsE : List Value → List EV
  | [] => []
  | x :: xs => .v x :: vsE xs
/-- The cells of a literal. -/
def fillE (pl : List (Nat × Nat × Bool)) : List EV → List (Nat × EV) → Option (List EV)
  | cells, [] => some cells
  | cells, (i, x) :: rest => match pl[i]? with
    | some (o, s, _) => bif Nat.beq (csE x).length s && onesE (csE x) && Nat.ble (o + s) cells.length then (match ptE o cells (csE x) with | some c => fillE pl c rest | none => none) else none
    | none => none
def elsE (sz : Nat) : Nat → List (Nat × EV) → Option (List EV)
  | _, [] => some []
  | k, (i, x) :: rest => bif Nat.beq i k && Nat.beq (csE x).length sz && onesE (csE x) && shL (csE x) then (match elsE sz (k + 1) rest with | some l => some (csE x ++ l) | none => none) else none
/-- The places of an array's elements. -/
def arPl (s : Nat) : Nat → Nat → List (Nat × Nat × Bool)
  | 0, _ => []
  | n + 1, o => (o, s, true) :: arPl s n (o + s)
/-- The cells of an element that is told by a function. -/
def lzE (f : Nat → Nat → EV) (i : Nat) : Nat → Nat → List EV
  | 0, _ => []
  | k + 1, j => f i j :: lzE f i k (j + 1)

/-- Structs, cell by cell. -/
def eqF : CK → EV → EV → Option Bool
  | .i .u8, x, y => match asU8 x, asU8 y with
    | some a, some b => some (decide (a = b))
    | _, _ => none
  | .i .u32, x, y => match asU32 x, asU32 y with
    | some a, some b => some (decide (a = b))
    | _, _ => none
  | .i .u64, x, y => match asU64 x, asU64 y with
    | some a, some b => some (decide (a = b))
    | _, _ => none
  | .i .i64, x, y => match asI64 x, asI64 y with
    | some a, some b => some (decide (a = b))
    | _, _ => none
  | .b, x, y => match asB x, asB y with
    | some a, some b => some (a == b)
    | _, _ => none
  | .s, x, y => match asS x, asS y with
    | some a, some b => some (decide (a = b))
    | _, _ => none
  | _, _, _ => none
def eqE : List CK → List EV → List EV → Option Bool
  | [], [], [] => some true
  | k :: ks, x :: xs, y :: ys => match eqF k x y with
    | some b => match ks with
      | [] => match xs, ys with
        | [], [] => some b
        | _, _ => none
      | _ => match eqE ks xs ys with
        | some c => some (b && c)
        | none => none
    | none => none
  | _, _, _ => none
/-- A word turned over. -/
def notF (x : EV) : Option EV :=
  match asU32 x with
  | some c => some (.u32 (~~~c))
  | none => match asU64 x with
    | some c => some (.u64 (~~~c))
    | none => none
/-- Is it nil? -/
def nilP : EV → Option Bool
  | .v (.pointer none) => some true
  | .pp _ _ => some false
  | .pb _ _ => some false
  | .pz _ _ _ _ _ => some false
  | .own _ _ => some false
  | .po _ _ _ _ => some false
  | _ => none
def isNilE : EV → Bool
  | .v (.pointer none) => true
  | _ => false
section
variable (tab : TT) (vs : List (Nat × EV)) (bs : List (Nat × EB)) (d : Nat)
abbrev ob_ (r : Nat) : EB := look .dead bs r
def one (C : List Prop) (x : EV) : Option RS := some ⟨C, [(d, x)], []⟩
def oneO : Option (List Prop × EV) → Option RS
  | some (C, x) => some ⟨C, [(d, x)], []⟩
  | none => none
/-- A shared view of a slice of the call's own; its row is written no more below its end. -/
def frz (x : Operand) : Option (EV × RS) :=
  match x with
  | .tmp t => match look .any vs t with
    | .osl r n => match ob_ bs r with
      | .rb l T _ => some (.bs l, ⟨[n = l.length], [(t, .bs l)], [(r, .rb l T l.length)]⟩)
      | .rz m sz f T _ => some (.lz m sz f, ⟨[n = m], [(t, .lz m sz f)], [(r, .rz m sz f T (m * sz))]⟩)
      | .row cells T sz _ => some (.sl cells n, ⟨[], [(t, .sl cells n)], [(r, .row cells T sz cells.length)]⟩)
      | _ => none
    | y => some (y, ⟨[], [], []⟩)
  | x => some (evOf vs x, ⟨[], [], []⟩)
/-- One value, or the cells of a struct, out of cells. -/
def getE (ti : TI) (own : Bool) (off : Nat) (cells : List EV) : Option (List Prop × EV) :=
  bif ti.agg then (match tkE ti.sz (dpE off cells) with
    | some l => bif own || shL l then some ([], .agg l) else none
    | none => none)
  else (match nthE off cells with
    | some y => bif own || y.sh then some ([], y) else none
    | none => none)
def getZ (ti : TI) (n sz : Nat) (f : Nat → Nat → EV) (i off : Nat) : Option (List Prop × EV) :=
  bif Nat.ble (off + ti.sz) sz && Nat.ble 1 ti.sz then
    (bif ti.agg then (bif shL (lzE f i ti.sz off) then some ([i < n], .agg (lzE f i ti.sz off)) else none)
    else (match f i off with | y => bif y.sh then some ([i < n], y) else none))
  else none
def loadF (T : TypeId) (x : EV) : Option (List Prop × EV) :=
  match tab.find T with
  | none => none
  | some ti => match x with
    | .own r off => match ob_ bs r with
      | .box cells _ => getE ti true off cells
      | .row cells _ _ _ => getE ti false off cells
      | .bz n f _ => bif ti.agg then (bif Nat.beq off 0 && Nat.beq ti.sz n then some ([], .az n f) else none) else (match f off with | y => bif y.sh then some ([off < n], y) else none)
      | _ => none
    | .po r s i off => match ob_ bs r with
      | .rb l _ _ => bif ti.agg then none else (bif Nat.beq s 1 && Nat.beq off 0 then some ([i < l.length], .u8 (l.getD i 0)) else none)
      | .rz n sz f _ _ => bif Nat.beq s sz then getZ ti n sz f i off else none
      | .row cells _ _ _ => getE ti false (i * s + off) cells
      | _ => none
    | .pp cells off => getE ti false off cells
    | .pb l i => bif ti.agg then none else some ([i < l.length], .u8 (l.getD i 0))
    | .pz n sz f i off => getZ ti n sz f i off
    | _ => none
def storeF (T : TypeId) (x y : EV) : Option RS :=
  match tab.find T with
  | none => none
  | some ti => match x with
    | .own r off => match ob_ bs r with
      | .bz n f t => match y with
        | .az m g => bif Nat.beq off 0 && Nat.beq ti.sz n && Nat.beq m n then some ⟨[∀ i, i < m → oneE (g i) = true ∧ (g i).sh = true], [], [(r, .bz m g t)]⟩ else none
        | .agg l => bif Nat.beq off 0 && Nat.beq ti.sz n && Nat.beq l.length n && onesE l then some ⟨[], [], [(r, .box l t)]⟩ else none
        | y => bif Nat.beq ti.sz 1 && oneE y && y.sh then some ⟨[off < n], [], [(r, .bz n (fun a => bif Nat.beq a off then y else f a) t)]⟩ else none
      | .box cells t => match y with
       | .az m g => bif Nat.beq off 0 && Nat.beq ti.sz m && Nat.beq cells.length m then some ⟨[∀ i, i < m → oneE (g i) = true ∧ (g i).sh = true], [], [(r, .bz m g t)]⟩ else none
       | y => bif Nat.beq (csE y).length ti.sz && onesE (csE y) && Nat.ble (off + ti.sz) cells.length then (match ptE off cells (csE y) with | some c => some ⟨[], [], [(r, .box c t)]⟩ | none => none) else none
      | _ => none
    | .po r s i off => match ob_ bs r with
      | .rb l t pub => bif Nat.beq s 1 && Nat.beq off 0 && Nat.beq ti.sz 1 then (match asU8 y with | some c => some ⟨[i < l.length, pub ≤ i], [], [(r, .rb (l.set i c) t pub)]⟩ | none => none) else none
      | .row cells t sz pub => bif Nat.beq (csE y).length ti.sz && onesE (csE y) && shL (csE y) && Nat.ble (i * s + off + ti.sz) cells.length then (match ptE (i * s + off) cells (csE y) with | some c => some ⟨[pub ≤ i * s + off], [], [(r, .row c t sz pub)]⟩ | none => none) else none
      | _ => none
    | _ => none
def fldF (T f : Nat) (x : EV) : Option EV :=
  match tab.find T with
  | some ⟨.st pl, _, _, _, _⟩ => match pl[f]? with
    | some (o, .succ s, _) => match x with
      | .own r off => some (.own r (off + o))
      | .pp cells off => some (.pp cells (off + o))
      | .po r s i off => some (.po r s i (off + o))
      | .pz n s f i off => some (.pz n s f i (off + o))
      | _ => none
    | _ => none
  | _ => none
def idxF (T : TypeId) (x y : EV) : Option (List Prop × EV) :=
  match asInt y with
  | none => none
  | some (_, i) => match tab.find T with
    | some ⟨.sl _ s _ _, _, _, _, _⟩ => match x with
      | .bs l => bif Nat.beq s 1 then some ([0 ≤ i ∧ i < (l.length : Int)], .pb l i.toNat) else none
      | .lz n sz f => bif Nat.beq s sz then some ([0 ≤ i ∧ i < (n : Int)], .pz n sz f i.toNat 0) else none
      | .sl cells n => some ([0 ≤ i ∧ i < (n : Int)], .pp cells (i.toNat * s))
      | .osl r n => some ([0 ≤ i ∧ i < (n : Int)], .po r s i.toNat 0)
      | _ => none
    | some ⟨.ar n s _, _, _, _, _⟩ => match x with
      | .own r off => some ([0 ≤ i ∧ i < (n : Int)], .own r (off + i.toNat * s))
      | .pp cells off => some ([0 ≤ i ∧ i < (n : Int)], .pp cells (off + i.toNat * s))
      | _ => none
    | _ => none
def atF (T : TypeId) (x y : EV) : Option (List Prop × EV) :=
  match asInt y with
  | none => none
  | some (_, i) => match tab.find T with
    | some ⟨.str, _, _, _, _⟩ => match asS x with
      | some l => some ([0 ≤ i ∧ i < (l.length : Int)], .u8 (l.getD i.toNat 0))
      | none => none
    | some ⟨.ar n 1 e, _, _, _, _⟩ => match tab.find e with
      | some ⟨_, false, _, _, _⟩ => match x with
        | .agg l => match nthE i.toNat l with
          | some y => some ([0 ≤ i ∧ i < (n : Int)], y)
          | none => none
        | .az m f => match f i.toNat with | y => bif y.sh && Nat.beq m n then some ([0 ≤ i ∧ i < (n : Int)], y) else none
        | _ => none
      | _ => none
    | _ => none
/-- A part of a slice or a string. -/
def cutF (T : TypeId) (x : EV) (lo hi : Option EV) : Option (List Prop × EV) :=
  match (match lo with | none => some none | some y => (asInt y).map fun p => some p.2), (match hi with | none => some none | some y => (asInt y).map fun p => some p.2) with
  | some lo, some hi => match tab.find T with
    | some ⟨.str, _, _, _, _⟩ => match asS x with
      | some l => match lo, hi with
        | some i, none => some ([0 ≤ i ∧ i ≤ (l.length : Int)], .s (l.drop i.toNat))
        | none, some j => some ([0 ≤ j ∧ j ≤ (l.length : Int)], .s (l.take j.toNat))
        | some i, some j => some ([0 ≤ i ∧ i ≤ j ∧ j ≤ (l.length : Int)], .s ((l.drop i.toNat).take (j.toNat - i.toNat)))
        | none, none => none
      | none => none
    | some ⟨.sl _ s _ _, _, _, _, _⟩ => match x with
      | .bs l => bif Nat.beq s 1 then (match lo, hi with
        | some i, none => some ([0 ≤ i ∧ i ≤ (l.length : Int)], .bs (l.drop i.toNat))
        | none, some j => some ([0 ≤ j ∧ j ≤ (l.length : Int)], .bs (l.take j.toNat))
        | some i, some j => some ([0 ≤ i ∧ i ≤ j ∧ j ≤ (l.length : Int)], .bs ((l.drop i.toNat).take (j.toNat - i.toNat)))
        | none, none => none) else none
      | .lz n sz f => bif Nat.beq s sz then (match lo, hi with
        | some i, none => some ([0 ≤ i ∧ i ≤ (n : Int)], .lz (n - i.toNat) sz (fun a b => f (i.toNat + a) b))
        | none, some j => some ([0 ≤ j ∧ j ≤ (n : Int)], .lz j.toNat sz f)
        | some i, some j => some ([0 ≤ i ∧ i ≤ j ∧ j ≤ (n : Int)], .lz (j.toNat - i.toNat) sz (fun a b => f (i.toNat + a) b))
        | none, none => none) else none
      | _ => none
    | _ => none
  | _, _ => none
def lenF (x : EV) : Option Int :=
  match x with
  | .bs l => some (l.length : Int)
  | .lz n _ _ => some (n : Int)
  | .sl _ n => some (n : Int)
  | .osl _ n => some (n : Int)
  | .v (.slice _ m _) => some (m : Int)
  | .v (.string ⟨⟨l⟩⟩) => some (l.length : Int)
  | _ => none
/-- What is appended: n elements of these cells. -/
inductive SrcE where
  | by_ (l : List UInt8)
  | lz (n sz : Nat) (f : Nat → Nat → EV)
  | cs (l : List EV) (n : Nat)
def srcF (sz : Nat) (y : EV) : Option (List Prop × SrcE) :=
  match y with
  | .bs l => some ([], .by_ l)
  | .lz n sz f => some ([], .lz n sz f)
  | .sl l n => some ([], .cs l n)
  | .v (.slice none 0 0) => some ([], .cs [] 0)
  | .osl r n => match ob_ bs r with
    | .rb l _ _ => some ([n = l.length], .by_ l)
    | .rz m sz f _ _ => some ([n = m], .lz m sz f)
    | .row l _ z _ => bif Nat.beq z sz then some ([], .cs l n) else none
    | _ => none
  | _ => none
/-- The name of a block that the operation with this place makes. -/
def nmB (d : Nat) : Nat := 1000 + d
def allocF (T : TypeId) : Option RS :=
  match tab.find T with
  | some ⟨_, _, _, some z, _⟩ => some ⟨[], [(d, .own (nmB d) 0)], [(nmB d, .box (vsE z) T)]⟩
  | _ => none
def boxF (T : TypeId) (x : EV) : Option RS := match x with
  | .az n f => some ⟨[∀ i, i < n → oneE (f i) = true ∧ (f i).sh = true], [(d, .own (nmB d) 0)], [(nmB d, .bz n f T)]⟩
  | x => bif onesE (csE x) then some ⟨[], [(d, .own (nmB d) 0)], [(nmB d, .box (csE x) T)]⟩ else none
def partsE : List (Nat × Operand) → List (Nat × EV)
  | [] => []
  | (i, x) :: l => (i, evOf vs x) :: partsE l
def buildF (T : TypeId) (parts : List (Nat × Operand)) : Option RS :=
  match tab.find T with
  | some ⟨.st pl, _, _, some z, _⟩ => match fillE pl (vsE z) (partsE vs parts) with
    | some l => some ⟨[], [(d, .agg l)], []⟩
    | none => none
  | some ⟨.ar n s e, _, _, some z, _⟩ => match fillE (arPl s n 0) (vsE z) (partsE vs parts) with
    | some l => some ⟨[], [(d, .agg l)], []⟩
    | none => none
  | _ => none
def isU8 (e sz by_ : Nat) (z : List Value) : Bool := match tab.find e with
  | some ⟨.int .u8, _, _, _, _⟩ => Nat.beq sz 1 && Nat.ble by_ 10000 && (match z with
    | [.int .u8 (.ofNat 0)] => true
    | _ => false)
  | _ => false
/-- The bytes of cells. -/
def u8sE : List EV → Option (List UInt8)
  | [] => some []
  | .u8 c :: l => match u8sE l with | some m => some (c :: m) | none => none
  | .v (.int .u8 (.ofNat m)) :: l => bif Nat.blt m 256 then (match u8sE l with | some q => some (UInt8.ofNat m :: q) | none => none) else none
  | _ :: _ => none
def buildSliceF (T : TypeId) (len : Nat) (parts : List (Nat × Operand)) : Option RS :=
  match tab.find T with
  | some ⟨.sl e sz by_ z, _, _, _, _⟩ => match elsE sz 0 (partsE vs parts) with
    | some l => bif Nat.beq parts.length len && Nat.ble (len * sz) 1000000 then
        (match u8sE l with
        | some q => bif isU8 tab e sz by_ z then some ⟨[], [(d, .osl (nmB d) len)], [(nmB d, .rb q e 0)]⟩ else some ⟨[], [(d, .osl (nmB d) len)], [(nmB d, .row l e sz 0)]⟩
        | none => some ⟨[], [(d, .osl (nmB d) len)], [(nmB d, .row l e sz 0)]⟩) else none
    | none => none
  | _ => none
def zF (z : List Value) (_ j : Nat) : EV := .v (z.getD j undef)
def makeF (T : TypeId) (x y : EV) : Option RS :=
  match asI64 x, asI64 y with
  | some i, some j => match tab.find T with
    | some ⟨.sl e sz by_ z, _, _, _, _⟩ =>
      bif isU8 tab e sz by_ z then some ⟨[0 ≤ i ∧ i ≤ j ∧ j ≤ 1000000000], [(d, .osl (nmB d) i.toNat)], [(nmB d, .rb (List.replicate i.toNat 0) e 0)]⟩
      else bif Nat.ble by_ 10000 then some ⟨[0 ≤ i ∧ i ≤ j ∧ j ≤ 1000000000], [(d, .osl (nmB d) i.toNat)], [(nmB d, .rz i.toNat sz (zF z) e 0)]⟩ else none
    | _ => none
  | _, _ => none
/-- A row with more behind it. -/
def joinF (t : TypeId) (sz pub : Nat) : EB → SrcE → Option EB
  | .rb l _ _, .by_ m => some (.rb (l ++ m) t pub)
  | .rb l _ _, .cs c _ => match u8sE c with
    | some m => some (.rb (l ++ m) t pub)
    | none => none
  | .row l _ _ _, .cs m _ => some (.row (l ++ m) t sz pub)
  | .rz n sz' f _ _, .cs m k => bif Nat.beq sz' sz then some (.rz (n + k) sz (fun i j => bif Nat.blt i n then f i j else m.getD ((i - n) * sz + j) .any) t pub) else none
  | .rz n sz' f _ _, .lz k sz'' g => bif Nat.beq sz' sz && Nat.beq sz'' sz then some (.rz (n + k) sz (fun i j => bif Nat.blt i n then f i j else g (i - n) j) t pub) else none
  | _, _ => none
def newF (t : TypeId) (sz : Nat) : SrcE → EB
  | .by_ m => .rb m t 0
  | .lz n z f => .rz n z f t 0
  | .cs m _ => .row m t sz 0
def SrcE.len : SrcE → Nat
  | .by_ m => m.length
  | .lz n _ _ => n
  | .cs _ n => n
def SrcE.szOk (sz : Nat) : SrcE → Bool
  | .by_ _ => Nat.beq sz 1
  | .lz _ z _ => Nat.beq z sz
  | .cs _ _ => true
def SrcE.okC (sz : Nat) : SrcE → List Prop
  | .cs m n => [m.length = n * sz]
  | _ => []
def EB.lenC (sz n : Nat) : EB → List Prop
  | .rb l _ _ => [n = l.length]
  | .rz m _ _ _ _ => [n = m]
  | .row m _ _ _ => [n * sz = m.length]
  | _ => [False]
def EB.pub : EB → Nat
  | .rb _ _ p => p
  | .rz _ _ _ _ p => p
  | .row _ _ _ p => p
  | _ => 0
def EB.okSz (sz : Nat) (e : TypeId) : EB → Bool
  | .rb _ t _ => Nat.beq sz 1 && Nat.beq t e
  | .rz _ z _ t _ => Nat.beq z sz && Nat.beq t e
  | .row _ t z _ => Nat.beq z sz && Nat.beq t e
  | _ => false
def nmZ (d : Nat) : Nat := 500000 + d
def appendF (T : TypeId) (x y : EV) : Option RS :=
  match tab.find T with
  | some ⟨.sl e sz by_ _, _, _, _, _⟩ => bif Nat.ble by_ 10000 && Nat.ble 1 sz then (match srcF bs sz y with
    | some (C, src) => bif src.szOk sz then (match x with
      | .osl r n => bif (ob_ bs r).okSz sz e then (match joinF e sz (ob_ bs r).pub (ob_ bs r) src with
        | some eb => some ⟨C ++ (src.okC sz ++ ((ob_ bs r).lenC sz n ++ [n + src.len ≤ 1000000000])), [(d, .osl (nmB d) (n + src.len))], [(nmB d, eb), (r, .dead)]⟩
        | none => none) else none
      | .v (.slice none 0 0) => some ⟨C ++ (src.okC sz ++ [src.len ≤ 1000000000]), [(d, .osl (nmB d) src.len)], [(nmB d, newF e sz src), (nmZ d, .dead)]⟩
      | _ => none) else none
    | none => none) else none
  | _ => none
def convAnyF (T T' : TypeId) (x : Operand) : Option RS :=
  match tab.find T, tab.find T' with
  | some ⟨k, _, _, _, _⟩, some ⟨k', _, _, _, _⟩ => match k' with
    | .int k2 => match convF k2 (evOf vs x) with
      | some y => some ⟨[], [(d, y)], []⟩
      | none => none
    | .str => match k with
      | .str => match asS (evOf vs x) with
        | some l => some ⟨[], [(d, .s l)], []⟩
        | none => none
      | .sl e sz by_ z => bif isU8 tab e sz by_ z then (match frz vs bs x with
        | some (.bs l, R) => some ⟨R.C, (d, .s l) :: R.sl, R.hp⟩
        | some (.v (.slice none 0 0), R) => some ⟨R.C, (d, .s []) :: R.sl, R.hp⟩
        | _ => none) else none
      | _ => none
    | .sl e sz by_ z => match k with
      | .str => bif isU8 tab e sz by_ z then (match asS (evOf vs x) with
        | some l => some ⟨[l.length ≤ 1000000000], [(d, .osl (nmB d) l.length)], [(nmB d, .rb l e 0)]⟩
        | none => none) else none
      | .sl _ _ _ _ => bif Nat.beq T T' && isU8 tab e sz by_ z then (match evOf vs x with
        | .osl r n => match ob_ bs r with
          | .rb _ _ _ => some ⟨[0 < n], [(d, .osl r n)], []⟩
          | _ => none
        | _ => none) else none
      | _ => none
    | _ => none
  | _, _ => none
def optE : Option Operand → Option EV
  | none => none
  | some x => some (evOf vs x)
def sliceF (T : TypeId) (x : Operand) (lo hi : Option Operand) : Option RS :=
  match frz vs bs x with
  | some (y, R) => match cutF tab T y (optE vs lo) (optE vs hi) with
    | some (C, z) => some ⟨R.C ++ C, (d, z) :: R.sl, R.hp⟩
    | none => none
  | none => none
def builtinF (b : Builtin) (args : List Operand) (ty : TypeId) (argTypes : List TypeId) : Option RS :=
  match b, args, argTypes with
  | .len, [x], [T] => match tab.find T with
    | some ⟨.sl _ _ _ _, _, _, _, _⟩ => match asS (evOf vs x) with
      | some _ => none
      | none => match lenF (evOf vs x) with
        | some z => some ⟨[], [(d, .i z)], []⟩
        | none => none
    | some ⟨.str, _, _, _, _⟩ => match asS (evOf vs x) with
      | some l => some ⟨[], [(d, .i (l.length : Int))], []⟩
      | none => none
    | _ => none
  | .copy, [x, y], [T, _] => match tab.find T with
    | some ⟨.sl e s _ _, _, _, _, _⟩ => bif Nat.beq s 1 then (match evOf vs x with
      | .osl r n => match ob_ bs r with
        | .rb l t pub => bif Nat.beq t e then (match (match asS (evOf vs y) with | some m => some m | none => (match evOf vs y with | .bs m => some m | _ => none)) with
          | some m => some ⟨[n = l.length, 0 < n, pub = 0], [(d, .i (Nat.min m.length n : Nat))], [(r, .rb (m.take n ++ l.drop (m.take n).length) t pub)]⟩
          | none => none) else none
        | _ => none
      | _ => none) else none
    | _ => none
  | .append, [x, y], [T, T'] => bif Nat.beq T T' then appendF tab bs d T (evOf vs x) (evOf vs y) else none
  | .min, [x, y], [_, _] => match tab.find ty with
    | some ⟨.int .i64, _, _, _, _⟩ => match asI64 (evOf vs x), asI64 (evOf vs y) with
      | some i, some j => some ⟨[], [(d, .i (min i j))], []⟩
      | _, _ => none
    | some ⟨.str, _, _, _, _⟩ => match asS (evOf vs x), asS (evOf vs y) with
      | some i, some j => some ⟨[], [(d, .s (bif Op.bytesLess i j || decide (i = j) then i else j))], []⟩
      | _, _ => none
    | _ => none
  | .max, [x, y], [_, _] => match tab.find ty with
    | some ⟨.int .i64, _, _, _, _⟩ => match asI64 (evOf vs x), asI64 (evOf vs y) with
      | some i, some j => some ⟨[], [(d, .i (max i j))], []⟩
      | _, _ => none
    | some ⟨.int .u8, _, _, _, _⟩ => match asU8 (evOf vs x), asU8 (evOf vs y) with
      | some i, some j => some ⟨[], [(d, .u8 (if i < j then j else i))], []⟩
      | _, _ => none
    | some ⟨.str, _, _, _, _⟩ => match asS (evOf vs x), asS (evOf vs y) with
      | some i, some j => some ⟨[], [(d, .s (bif Op.bytesLess i j then j else i))], []⟩
      | _, _ => none
    | _ => none
  | _, _, _ => none
/-- An operation that makes a slot, without a guard. -/
def opF (wr : Bool) (ty : TypeId) : Op → Option RS
  | .move x => (evOf vs x).fc fun y => some ⟨[], [(d, y)], []⟩
  | .assign x => (evOf vs x).fc fun y => some ⟨[], [(d, y)], []⟩
  | .unOp .not _ x => match asB (evOf vs x) with
    | some g => some ⟨[], [(d, .b (!g))], []⟩
    | none => none
  | .unOp .neg _ x => match asI64 (evOf vs x) with
    | some i => oneO d (arF wr (-i))
    | none => none
  | .unOp .xor _ x => match notF (evOf vs x) with
    | some y => some ⟨[], [(d, y)], []⟩
    | none => none
  | .binOp op T x y _ => match tab.find T with
    | some ⟨.bool, _, _, _, _⟩ => match asB (evOf vs x), asB (evOf vs y) with
      | some i, some j => match boolF i j op with
        | some z => some ⟨[], [(d, z)], []⟩
        | none => none
      | _, _ => none
    | some ⟨.ptr, _, _, _, _⟩ => bif isNilE (evOf vs y) then (match nilP (evOf vs x) with
      | some b => match op with
        | .eql => some ⟨[], [(d, .b b)], []⟩
        | .neq => some ⟨[], [(d, .b (!b))], []⟩
        | _ => none
      | none => none) else none
    | some ⟨.st _, true, _, _, some ks⟩ => match evOf vs x, evOf vs y with
      | .agg xs, .agg ys => match eqE ks xs ys with
        | some b => match op with
          | .eql => some ⟨[], [(d, .b b)], []⟩
          | .neq => some ⟨[], [(d, .b (!b))], []⟩
          | _ => none
        | none => none
      | _, _ => none
    | _ => oneO d (binF wr op (evOf vs x) (evOf vs y))
  | .convert T T' x => convAnyF tab vs bs d T T' x
  | .alloc T => allocF tab d T
  | .box T x => boxF d T (evOf vs x)
  | .build T parts => buildF tab vs d T parts.toList
  | .buildSlice T len parts => buildSliceF tab vs d T len parts.toList
  | .makeSlice T x y => makeF tab d T (evOf vs x) (evOf vs y)
  | .load T x => oneO d (loadF tab bs T (evOf vs x))
  | .nilCheck x => match evOf vs x with
    | .own r o => some ⟨[], [(d, .own r o)], []⟩
    | .pp c o => some ⟨[], [(d, .pp c o)], []⟩
    | .po r s i o => some ⟨[], [(d, .po r s i o)], []⟩
    | .pz n s f i o => some ⟨[], [(d, .pz n s f i o)], []⟩
    | _ => none
  | .fieldAddr T x f => match fldF tab T f (evOf vs x) with
    | some y => some ⟨[], [(d, y)], []⟩
    | none => none
  | .indexAddr T x y => oneO d (idxF tab T (evOf vs x) (evOf vs y))
  | .index T x y => oneO d (atF tab T (evOf vs x) (evOf vs y))
  | .slice T x lo hi none => sliceF tab vs bs d T x lo hi
  | .extract x i => match evOf vs x with
    | .tup l => match nthE i l with
      | some y => some ⟨[], [(d, y)], []⟩
      | none => none
    | _ => none
  | .call c => match c.callee with
    | .builtin b => builtinF tab vs bs d b c.args.toList ty c.argTypes.toList
    | _ => none
  | _ => none
end
end Go.Proofs.Ytnopdnclefopbaa
