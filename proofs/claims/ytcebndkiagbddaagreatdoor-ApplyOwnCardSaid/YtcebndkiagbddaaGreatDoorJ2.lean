/- Part 2 of the proof: its texts one behind the other. -/
import Derived.IntWalk
import Derived.Laws.BitsAllLaws
import Derived.ChangeKeysEq
import Derived.Test.YtcebndkiagbddaaGreatDoorJ1
namespace Go.Proofs.YtcebndkiagbddaaGreatDoor
open Go.RowKit
set_option linter.unusedVariables false
set_option linter.unusedSimpArgs false

theorem bif_some {α : Type} {c : Bool} {a : Option α} {b : α} (h : (bif c then a else none) = some b) : c = true ∧ a = some b := by
  cases c with
  | false => cases h
  | true => exact ⟨rfl, h⟩

inductive EV where
  | v (x : Value)
  | u8 (c : UInt8)
  | u32 (c : UInt32)
  | u64 (c : UInt64)
  | az (n : Nat) (f : Nat → EV)
  | bs (l : List UInt8)
  | lz (n sz : Nat) (f : Nat → Nat → EV)
  | agg (l : List EV)
  | tup (l : List EV)
  | pp (cells : List EV) (off : Nat)
  | pb (l : List UInt8) (i : Nat)
  | pz (n sz : Nat) (f : Nat → Nat → EV) (i off : Nat)
  | raw (x : PV)
  | sl (cells : List EV) (n : Nat)
  | po (r sz i off : Nat)
  | own (r off : Nat)
  | osl (r n : Nat)
  | fn (f : FuncId) (caps : List EV)
  | rp (t : Option (List PV))
  | mref (r : Nat)
  | oss (r k n sz : Nat)
  | cnd (g : Bool) (x : EV)
  | any
abbrev EV.i (n : Int) : EV := .v (.int .i64 n)
abbrev EV.b (g : Bool) : EV := .v (.bool g)
abbrev EV.s (l : List UInt8) : EV := .v (.string ⟨⟨l⟩⟩)
abbrev EV.nil : EV := .v (.slice none 0 0)
abbrev u32P (c : UInt32) : PV := .v (.int .u32 (c.toNat : Int))
abbrev u64P (c : UInt64) : PV := .v (.int .u64 (c.toNat : Int))
/-- A pointer to a whole variable, or nil. -/
def rpP : Option (List PV) → PV
  | none => .v (.pointer none)
  | some c => .pp c 0

mutual
def EV.pv : EV → PV
  | .v x => .v x
  | .u8 c => b8P c
  | .u32 c => u32P c
  | .u64 c => u64P c
  | .az n f => .agg ((List.range n).map fun i => (f i).pv)
  | .bs l => bytesP l
  | .lz n sz f => .sl ((List.range n).flatMap fun i => (List.range sz).map fun j => (f i j).pv) n
  | .agg l => .agg (pvL l)
  | .tup l => .tup (pvL l)
  | .pp cells off => .pp (pvL cells) off
  | .pb l i => .pp (l.map b8P) i
  | .pz n sz f i off => .pp ((List.range n).flatMap fun i => (List.range sz).map fun j => (f i j).pv) (i * sz + off)
  | .raw x => x
  | .sl cells n => .sl (pvL cells) n
  | .fn f caps => .fn f (pvL caps)
  | .rp t => rpP t
  | .mref _ => .v undef
  | .oss _ _ _ _ => .v undef
  | .po _ _ _ _ => .v undef
  | .own _ _ => .v undef
  | .osl _ _ => .v undef
  | .cnd _ _ => .v undef
  | .any => .v undef
def pvL : List EV → List PV
  | [] => []
  | x :: xs => EV.pv x :: pvL xs
end
mutual
def EV.av : EV → AV
  | .agg l => .agg (avL l)
  | .tup l => .tup (avL l)
  | .own r off => .own r off
  | .osl r n => .osl r n
  | .cnd g x => .cnd g x.av
  | .any => .any
  | .v x => .p (.v x)
  | .u8 c => .p (b8P c)
  | .u32 c => .p (u32P c)
  | .u64 c => .p (u64P c)
  | .az n f => .p (EV.pv (.az n f))
  | .bs l => .p (bytesP l)
  | .lz n sz f => .p (EV.pv (.lz n sz f))
  | .pp cells off => .p (.pp (pvL cells) off)
  | .pb l i => .p (.pp (l.map b8P) i)
  | .pz n sz f i off => .p (EV.pv (.pz n sz f i off))
  | .raw x => .p x
  | .sl cells n => .p (.sl (pvL cells) n)
  | .fn f caps => .p (.fn f (pvL caps))
  | .rp t => .p (rpP t)
  | .mref r => .mref r
  | .oss r k n sz => .oss r k n sz
  | .po r sz i off => .own r (i * sz + off)
def avL : List EV → List AV
  | [] => []
  | x :: xs => EV.av x :: avL xs
end
theorem pvL_map : ∀ l : List EV, pvL l = l.map EV.pv
  | [] => rfl
  | x :: xs => by simp [pvL, pvL_map xs]
theorem avL_map : ∀ l : List EV, avL l = l.map EV.av
  | [] => rfl
  | x :: xs => by simp [avL, avL_map xs]

/-- A block of the call's own. -/
inductive EB where
  | box (cells : List EV) (t : TypeId)
  | rb (l : List UInt8) (t : TypeId) (pub : Nat)
  | row (cells : List EV) (t : TypeId) (sz pub : Nat)
  | rz (n sz : Nat) (f : Nat → Nat → EV) (t : TypeId) (pub : Nat)
  | bz (n : Nat) (f : Nat → EV) (t : TypeId)
  | mp (es : NetMap)
  | it (m since : Nat) (seen : List Nat) (last : Nat)
  | ra (n sz : Nat) (f : Nat → Nat → EV) (t : TypeId) (ns : List Nat)
  | dead
def EB.ob : EB → OB
  | .box cells t => .box (avL cells) t
  | .rb l t pub => .row (l.map b8P) t 1 pub
  | .row cells t sz pub => .row (pvL cells) t sz pub
  | .rz n sz f t pub => .row ((List.range n).flatMap fun i => (List.range sz).map fun j => (f i j).pv) t sz pub
  | .bz n f t => .box (((List.range n).map fun i => (f i).pv).map AV.p) t
  | .mp es => mapB es
  | .it m since seen last => .it m since seen.reverse.toArray last
  | .ra n sz f t ns => .ra ((List.range n).flatMap fun i => (List.range sz).map fun j => (f i j).av) t sz ns
  | .dead => .dead

structure ES where
  slots : List (Nat × EV)
  heap : List (Nat × EB)
def avs : List (Nat × EV) → List (Nat × AV)
  | [] => []
  | p :: l => (p.1, p.2.av) :: avs l
def obs : List (Nat × EB) → List (Nat × OB)
  | [] => []
  | p :: l => (p.1, p.2.ob) :: obs l
def ES.as (st : ES) : AS := ⟨avs st.slots, obs st.heap⟩
theorem look_avs : ∀ (l : List (Nat × EV)) (s : Nat), look AV.any (avs l) s = (look EV.any l s).av
  | [], s => by simp [avs, look, EV.av]
  | (k, x) :: l, s => by
    simp only [avs, look]
    cases Nat.beq k s with
    | true => rfl
    | false => exact look_avs l s
theorem look_obs : ∀ (l : List (Nat × EB)) (s : Nat), look OB.dead (obs l) s = (look EB.dead l s).ob
  | [], s => rfl
  | (k, x) :: l, s => by
    simp only [obs, look]
    cases Nat.beq k s with
    | true => rfl
    | false => exact look_obs l s
theorem avs_app (l m : List (Nat × EV)) : avs (l ++ m) = avs l ++ avs m := by
  induction l with
  | nil => rfl
  | cons x l ih => simp [avs, ih]
theorem obs_app (l m : List (Nat × EB)) : obs (l ++ m) = obs l ++ obs m := by
  induction l with
  | nil => rfl
  | cons x l ih => simp [obs, ih]
def evOf (sl : List (Nat × EV)) : Operand → EV
  | .tmp t => look .any sl t
  | .const c => .v c
  | .func f => .v (.func (.func f) #[] #[])
  | .global _ => .any
def ES.ev (st : ES) (x : Operand) : EV := evOf st.slots x
def ES.eb (st : ES) (r : Nat) : EB := look .dead st.heap r
theorem as_ev (st : ES) (x : Operand) : st.as.ev x = (st.ev x).av := by
  cases x with
  | tmp t => exact look_avs _ _
  | const c => simp [AS.ev, ES.ev, evOf, EV.av]
  | func f => simp [AS.ev, ES.ev, evOf, EV.av]
  | global g => simp [AS.ev, ES.ev, evOf, EV.av]
theorem as_ob (st : ES) (r : Nat) : st.as.ob r = (st.eb r).ob := look_obs _ _

mutual
def EV.has (r : Nat) : EV → Bool
  | .agg l => hasE r l
  | .tup l => hasE r l
  | .own q _ => Nat.beq q r
  | .osl q _ => Nat.beq q r
  | .cnd _ x => EV.has r x
  | .v _ => false
  | .u8 _ => false
  | .u32 _ => false
  | .u64 _ => false
  | .az _ _ => false
  | .bs _ => false
  | .lz _ _ _ => false
  | .pp _ _ => false
  | .pb _ _ => false
  | .pz _ _ _ _ _ => false
  | .raw _ => false
  | .sl _ _ => false
  | .fn _ _ => false
  | .rp _ => false
  | .mref q => Nat.beq q r
  | .oss q _ _ _ => Nat.beq q r
  | .po q _ _ _ => Nat.beq q r
  | .any => false
def hasE (r : Nat) : List EV → Bool
  | [] => false
  | x :: xs => EV.has r x || hasE r xs
end
mutual
theorem has_av (r : Nat) : ∀ x : EV, x.av.has r = x.has r
  | .agg l => by simp only [EV.av, AV.has, EV.has]; exact has_avL r l
  | .tup l => by simp only [EV.av, AV.has, EV.has]; exact has_avL r l
  | .own q _ => by simp only [EV.av, AV.has, EV.has]
  | .osl q _ => by simp only [EV.av, AV.has, EV.has]
  | .cnd _ x => by simp only [EV.av, AV.has, EV.has]; exact has_av r x
  | .v _ => by simp only [EV.av, AV.has, EV.has]
  | .u8 _ => by simp only [EV.av, AV.has, EV.has]
  | .u32 _ => by simp only [EV.av, AV.has, EV.has]
  | .u64 _ => by simp only [EV.av, AV.has, EV.has]
  | .az _ _ => by simp only [EV.av, AV.has, EV.has]
  | .bs _ => by simp only [EV.av, AV.has, EV.has]
  | .lz _ _ _ => by simp only [EV.av, AV.has, EV.has]
  | .pp _ _ => by simp only [EV.av, AV.has, EV.has]
  | .pb _ _ => by simp only [EV.av, AV.has, EV.has]
  | .pz _ _ _ _ _ => by simp only [EV.av, AV.has, EV.has]
  | .raw _ => by simp only [EV.av, AV.has, EV.has]
  | .sl _ _ => by simp only [EV.av, AV.has, EV.has]
  | .fn _ _ => by simp only [EV.av, AV.has, EV.has]
  | .rp _ => by simp only [EV.av, AV.has, EV.has]
  | .mref _ => by simp only [EV.av, AV.has, EV.has]
  | .oss _ _ _ _ => by simp only [EV.av, AV.has, EV.has]
  | .po _ _ _ _ => by simp only [EV.av, AV.has, EV.has]
  | .any => by simp only [EV.av, AV.has, EV.has]
theorem has_avL (r : Nat) : ∀ l : List EV, hasL r (avL l) = hasE r l
  | [] => rfl
  | x :: xs => by simp only [avL, hasL, hasE]; rw [has_av r x, has_avL r xs]
end
def EB.has (r : Nat) : EB → Bool
  | .box cells _ => hasE r cells
  | .it m _ _ _ => Nat.beq m r
  | .ra _ _ _ _ ns => ns.contains r
  | _ => false
theorem hasL_mapP (r : Nat) : ∀ l : List PV, hasL r (l.map AV.p) = false
  | [] => rfl
  | x :: xs => by simp only [List.map_cons, hasL, AV.has, Bool.false_or]; exact hasL_mapP r xs
theorem has_ob (r : Nat) (x : EB) : x.ob.has r = x.has r := by
  cases x <;> simp only [EB.ob, OB.has, EB.has, has_avL, hasL_mapP]
def EB.alive : EB → Bool
  | .dead => false
  | _ => true
theorem alive_ob (x : EB) : x.ob.alive = x.alive := by cases x <;> rfl
def hasH (r : Nat) : List (Nat × EB) → Bool
  | [] => false
  | p :: h => p.2.has r || hasH r h
def hasS (r : Nat) : List (Nat × EV) → Bool
  | [] => false
  | p :: h => p.2.has r || hasS r h
theorem hasH_obs (r : Nat) : ∀ h : List (Nat × EB), hHas r (obs h) = hasH r h
  | [] => rfl
  | p :: h => by simp only [obs, hHas, hasH]; rw [has_ob, hasH_obs r h]
theorem hasS_avs (r : Nat) : ∀ h : List (Nat × EV), sHas r (avs h) = hasS r h
  | [] => rfl
  | p :: h => by simp only [avs, sHas, hasS]; rw [has_av, hasS_avs r h]
def ES.free (st : ES) (kp : List Nat) (r : Nat) : Bool := !(look EB.dead st.heap r).alive && !hasH r st.heap && !hasS r st.slots && !memN r kp
theorem memN_contains (r : Nat) : ∀ l : List Nat, memN r l = l.contains r
  | [] => rfl
  | x :: l => by
    simp only [memN, List.contains_cons, memN_contains r l]
    congr 1
    rw [Bool.eq_iff_iff]; simp
theorem as_free (st : ES) (kp : List Nat) (r : Nat) : st.as.free kp r = st.free kp r := by
  unfold AS.free ES.free ES.as
  simp only
  rw [look_obs, alive_ob, hasH_obs, hasS_avs, memN_contains]

/-! ### Elements of a row that is told by a function -/
theorem lz_get (n sz : Nat) (f : Nat → Nat → EV) {i j : Nat} (hi : i < n) (hj : j < sz) :
    ((List.range n).flatMap fun i => (List.range sz).map fun j => (f i j).pv)[i * sz + j]? = some (f i j).pv := by
  induction n with
  | zero => omega
  | succ n ih =>
    rw [List.range_succ, List.flatMap_append]
    have hl : ((List.range n).flatMap fun i => (List.range sz).map fun j => (f i j).pv).length = n * sz := by
      clear ih hi
      induction n with
      | zero => simp
      | succ n ih => rw [List.range_succ, List.flatMap_append, List.length_append, ih]; simp [Nat.succ_mul]
    by_cases h : i < n
    · rw [List.getElem?_append_left (by rw [hl]; calc i * sz + j < i * sz + sz := by omega
                                                  _ = (i + 1) * sz := by rw [Nat.succ_mul]
                                                  _ ≤ n * sz := Nat.mul_le_mul_right _ h)]
      exact ih h
    · obtain rfl : i = n := by omega
      rw [List.getElem?_append_right (by rw [hl]; omega), hl]
      simp [show i * sz + j - i * sz = j from by omega, hj]
theorem lz_len (n sz : Nat) (f : Nat → Nat → EV) : ((List.range n).flatMap fun i => (List.range sz).map fun j => (f i j).pv).length = n * sz := by
  induction n with
  | zero => simp
  | succ n ih => rw [List.range_succ, List.flatMap_append, List.length_append, ih]; simp [Nat.succ_mul]

/-! ### What is a shared value besides -/
theorem Gv.agg' {l : List PV} : Gv (.p (.agg l)) (.agg (l.map .p)) := fun w Pub φ u k => by
  unfold RA at k ⊢
  unfold RP at k
  obtain ⟨vs, e, h⟩ := k
  refine ⟨vs, e, ?_⟩
  clear e
  induction l generalizing vs with
  | nil => unfold RPs at h; simp only [List.map_nil]; unfold RAs; exact h
  | cons x l ih =>
    rw [List.map_cons]
    unfold RPs at h; unfold RAs
    obtain ⟨u, us, e, h1, h2⟩ := h
    exact ⟨u, us, e, by unfold RA; exact h1, ih us h2⟩
mutual
def EV.sh : EV → Bool
  | .agg l => shL l
  | .tup l => shL l
  | .own _ _ => false
  | .po _ _ _ _ => false
  | .osl _ _ => false
  | .cnd _ _ => false
  | .any => false
  | .sl _ _ => true
  | .fn _ _ => true
  | .rp _ => true
  | .mref _ => false
  | .oss _ _ _ _ => false
  | .v _ => true
  | .u8 _ => true
  | .u32 _ => true
  | .u64 _ => true
  | .az _ _ => true
  | .bs _ => true
  | .lz _ _ _ => true
  | .pp _ _ => true
  | .pb _ _ => true
  | .pz _ _ _ _ _ => true
  | .raw _ => true
def shL : List EV → Bool
  | [] => true
  | x :: xs => EV.sh x && shL xs
end
section
variable {w : World} {Pub : Nat → Nat → Prop} {φ : Ghost}
mutual
theorem av_pv : ∀ (x : EV) (u : Value), x.sh = true → (RA w Pub φ x.av u ↔ RP w Pub x.pv u)
  | .agg l, u, h => by
    unfold EV.sh at h
    unfold EV.av EV.pv RA RP
    exact ⟨fun ⟨vs, e, k⟩ => ⟨vs, e, (avL_pvL l vs h).1 k⟩, fun ⟨vs, e, k⟩ => ⟨vs, e, (avL_pvL l vs h).2 k⟩⟩
  | .tup l, u, h => by
    unfold EV.sh at h
    unfold EV.av EV.pv RA RP
    exact ⟨fun ⟨vs, e, k⟩ => ⟨vs, e, (avL_pvL l vs h).1 k⟩, fun ⟨vs, e, k⟩ => ⟨vs, e, (avL_pvL l vs h).2 k⟩⟩
  | .own _ _, _, h => by unfold EV.sh at h; cases h
  | .po _ _ _ _, _, h => by unfold EV.sh at h; cases h
  | .sl _ _, _, _ => by unfold EV.av EV.pv RA; exact Iff.rfl
  | .fn _ _, _, _ => by unfold EV.av EV.pv RA; exact Iff.rfl
  | .rp _, _, _ => by unfold EV.av EV.pv RA; exact Iff.rfl
  | .mref _, _, h => by unfold EV.sh at h; cases h
  | .oss _ _ _ _, _, h => by unfold EV.sh at h; cases h
  | .osl _ _, _, h => by unfold EV.sh at h; cases h
  | .cnd _ _, _, h => by unfold EV.sh at h; cases h
  | .any, _, h => by unfold EV.sh at h; cases h
  | .v _, _, _ => by unfold EV.av EV.pv RA; exact Iff.rfl
  | .u8 _, _, _ => by unfold EV.av EV.pv RA; exact Iff.rfl
  | .u32 _, _, _ => by unfold EV.av EV.pv RA; exact Iff.rfl
  | .u64 _, _, _ => by unfold EV.av EV.pv RA; exact Iff.rfl
  | .az _ _, _, _ => by unfold EV.av RA; exact Iff.rfl
  | .bs _, _, _ => by unfold EV.av EV.pv RA; exact Iff.rfl
  | .lz _ _ _, _, _ => by unfold EV.av RA; exact Iff.rfl
  | .pp _ _, _, _ => by unfold EV.av EV.pv RA; exact Iff.rfl
  | .pb _ _, _, _ => by unfold EV.av EV.pv RA; exact Iff.rfl
  | .pz _ _ _ _ _, _, _ => by unfold EV.av RA; exact Iff.rfl
  | .raw _, _, _ => by unfold EV.av EV.pv RA; exact Iff.rfl
theorem avL_pvL : ∀ (l : List EV) (us : List Value), shL l = true → (RAs w Pub φ (avL l) us ↔ RPs w Pub (pvL l) us)
  | [], us, _ => by unfold avL pvL RAs RPs; exact Iff.rfl
  | x :: xs, us, h => by
    unfold shL at h
    rw [Bool.and_eq_true] at h
    unfold avL pvL RAs RPs
    exact ⟨fun ⟨u, vs, e, k1, k2⟩ => ⟨u, vs, e, (av_pv x u h.1).1 k1, (avL_pvL xs vs h.2).1 k2⟩, fun ⟨u, vs, e, k1, k2⟩ => ⟨u, vs, e, (av_pv x u h.1).2 k1, (avL_pvL xs vs h.2).2 k2⟩⟩
end
end
theorem Gv.sh {x : EV} (h : x.sh = true) : Gv x.av (.p x.pv) := fun w Pub φ u k => by unfold RA; exact (av_pv x u h).1 k
theorem Gv.sh' {x : EV} (h : x.sh = true) : Gv (.p x.pv) x.av := fun w Pub φ u k => by unfold RA at k; exact (av_pv x u h).2 k

/-! ### The types of a program -/
inductive TK where
  | int (k : IntKind) | bool | str
  | sl (e : TypeId) (sz bytes : Nat) (ze : List Value)
  | st (pl : List (Nat × Nat × Bool))
  | ar (n esz : Nat) (e : TypeId)
  | ptr | other
  | mp (K V : TypeId)
structure TI where
  k : TK
  agg : Bool
  sz : Nat
  ze : Option (List Value)
  ks : Option (List CK) := none
inductive TT where
  | leaf | node (T : Nat) (i : TI) (l r : TT)
def TT.find (T : Nat) : TT → Option TI
  | .leaf => none
  | .node K i l r => bif Nat.beq T K then some i else bif Nat.blt T K then l.find T else r.find T
/-- The fields that are marked are no structs or arrays. -/
def naAll (P : Program) : List (Nat × Nat × Bool) → List Field → Bool
  | p :: pl, fd :: fs => (!p.2.2 || (match aggOf P fd.type with | some false => true | _ => false)) && naAll P pl fs
  | _, _ => true
def stNA (P : Program) (T : TypeId) (pl : List (Nat × Nat × Bool)) : Bool := match P.underlying T with
  | some (.struct fs) => naAll P pl fs.toList
  | _ => true
theorem naAll_get {P : Program} {o s : Nat} {fd : Field} : ∀ {pl : List (Nat × Nat × Bool)} {fs : List Field} {f : Nat}, naAll P pl fs = true → pl[f]? = some (o, s, true) → fs[f]? = some fd → aggOf P fd.type = some false
  | [], _, _, _, h, _ => by simp at h
  | _ :: _, [], _, _, _, h => by simp at h
  | p :: pl, g :: fs, 0, h, h1, h2 => by
    simp at h1 h2
    subst h1 h2
    unfold naAll at h
    rw [Bool.and_eq_true] at h
    have := h.1
    simp only [Bool.not_true, Bool.false_or] at this
    split at this
    · assumption
    · cases this
  | p :: pl, g :: fs, f + 1, h, h1, h2 => by
    unfold naAll at h
    rw [Bool.and_eq_true] at h
    exact naAll_get h.2 (by simpa using h1) (by simpa using h2)
/-- What a row of the table says is so. -/
structure TIok (P : Program) (T : TypeId) (i : TI) : Prop where
  agg : aggOf P T = some i.agg
  sz : szOf P T = some i.sz
  ze : ∀ z, i.ze = some z → zeOf P T = some z ∧ z.all (·.oneCell') = true
  int : ∀ k, i.k = .int k → P.underlying T = some (.int k)
  ptr : i.k = .ptr → ∃ e, P.underlying T = some (.pointer e)
  ks : ∀ l, i.ks = some l → flatK P 20 T = some l ∧ P.eqGuardType P.depth T = false
  str : i.k = .str → P.underlying T = some .string
  bool : i.k = .bool → P.underlying T = some .bool
  sl : ∀ e sz b z, i.k = .sl e sz b z → P.underlying T = some (.slice e) ∧ slOf P T = some (e, sz) ∧ apOf P T = some (e, sz, b, z) ∧ 0 < sz ∧ z.all (·.oneCell') = true
  st : ∀ pl, i.k = .st pl → plOf P T = some (pl.map fun p => (p.1, p.2.1))
  fl : ∀ pl, i.k = .st pl → stNA P T pl = true
  mp : ∀ K V, i.k = .mp K V → MapT P T K V
  ar : ∀ n s e, i.k = .ar n s e → arOf P T = some (n, s) ∧ P.underlying T = some (.array n e) ∧ szOf P e = some s
def TT.ok (P : Program) : TT → Prop
  | .leaf => True
  | .node T i l r => TIok P T i ∧ l.ok P ∧ r.ok P
theorem TT.find_ok {P : Program} {T : Nat} {i : TI} : ∀ {t : TT}, t.ok P → t.find T = some i → TIok P T i
  | .leaf, _, h => by cases h
  | .node K j l r, ho, h => by
    unfold TT.ok at ho
    unfold TT.find at h
    cases e : Nat.beq T K with
    | true => rw [e] at h; simp at h; subst h; rw [Nat.eq_of_beq_eq_true e]; exact ho.1
    | false =>
      rw [e] at h
      simp only [cond_false] at h
      cases e2 : Nat.blt T K with
      | true => rw [e2] at h; exact TT.find_ok ho.2.1 h
      | false => rw [e2] at h; exact TT.find_ok ho.2.2 h
end Go.Proofs.YtcebndkiagbddaaGreatDoor

/- One operation, computed over typed values: what it asks for (C), the slots and the blocks that it makes. It names no function of the program. -/
namespace Go.Proofs.YtcebndkiagbddaaGreatDoor
open Go.RowKit
set_option linter.unusedVariables false
set_option linter.unusedSimpArgs false

/-- A value, worked out up to its head. -/
def EV.fc {α : Type} (k : EV → α) : EV → α
  | .v x => k (.v x)
  | .u8 c => k (.u8 c)
  | .u32 c => k (.u32 c)
  | .u64 c => k (.u64 c)
  | .az n f => k (.az n f)
  | .bs l => k (.bs l)
  | .lz n sz f => k (.lz n sz f)
  | .agg l => k (.agg l)
  | .tup l => k (.tup l)
  | .pp c o => k (.pp c o)
  | .pb l i => k (.pb l i)
  | .pz n sz f i o => k (.pz n sz f i o)
  | .raw x => k (.raw x)
  | .sl c n => k (.sl c n)
  | .po r s i o => k (.po r s i o)
  | .own r o => k (.own r o)
  | .osl r n => k (.osl r n)
  | .fn f c => k (.fn f c)
  | .rp t => k (.rp t)
  | .mref r => k (.mref r)
  | .oss r i n s => k (.oss r i n s)
  | .cnd g x => k (.cnd g x)
  | .any => k .any
theorem EV.fc_eq {α : Type} (k : EV → α) (x : EV) : x.fc k = k x := by cases x <;> rfl
/-- Two lists, put together and worked out. -/
def appK {α β : Type} (k : List α → β) (m : List α) : List α → β
  | [] => k m
  | x :: l => appK (fun m' => k (x :: m')) m l
theorem appK_eq {α β : Type} (m : List α) : ∀ (l : List α) (k : List α → β), appK k m l = k (l ++ m)
  | [], k => rfl
  | x :: l, k => appK_eq m l _
structure RS where
  C : List Prop
  sl : List (Nat × EV)
  hp : List (Nat × EB)
def asI64 : EV → Option Int
  | .v (.int .i64 i) => some i
  | _ => none
def asInt : EV → Option (IntKind × Int)
  | .v (.int k i) => some (k, i)
  | .u8 c => some (.u8, (c.toNat : Int))
  | .u32 c => some (.u32, (c.toNat : Int))
  | .u64 c => some (.u64, (c.toNat : Int))
  | _ => none
def asB : EV → Option Bool
  | .v (.bool g) => some g
  | _ => none
def asS : EV → Option (List UInt8)
  | .v (.string ⟨⟨l⟩⟩) => some l
  | _ => none
def asU8 : EV → Option UInt8
  | .u8 c => some c
  | .v (.int .u8 (.ofNat m)) => bif Nat.blt m 256 then some (UInt8.ofNat m) else none
  | _ => none
def asU32 : EV → Option UInt32
  | .u32 c => some c
  | .v (.int .u32 (.ofNat m)) => bif Nat.blt m 4294967296 then some (UInt32.ofNat m) else none
  | _ => none
def asU64 : EV → Option UInt64
  | .u64 c => some c
  | .v (.int .u64 (.ofNat m)) => bif Nat.blt m 18446744073709551616 then some (UInt64.ofNat m) else none
  | _ => none
def arF (wr : Bool) (x : Int) : Option (List Prop × EV) := bif wr then some ([], .i (IntKind.i64.wrap x)) else some ([-9223372036854775808 ≤ x ∧ x ≤ 9223372036854775807], .i x)
def intF (wr : Bool) (i j : Int) : BinOp → Option (List Prop × EV)
  | .lss => some ([], .b (decide (i < j)))
  | .leq => some ([], .b (decide (i ≤ j)))
  | .gtr => some ([], .b (decide (j < i)))
  | .geq => some ([], .b (decide (j ≤ i)))
  | .eql => some ([], .b (decide (i = j)))
  | .neq => some ([], .b (!decide (i = j)))
  | .add => arF wr (i + j)
  | .sub => arF wr (i - j)
  | .mul => arF wr (i * j)
  | .quo => some ([0 ≤ i ∧ 0 < j, i ≤ 9223372036854775807], .i (i / j))
  | .rem => some ([0 ≤ i ∧ 0 < j], .i (i % j))
  | .or => some ([], .i (IntKind.i64.wrap ((BitVec.ofInt 64 i ||| BitVec.ofInt 64 j).toNat : Int)))
  | .and => some ([], .i (IntKind.i64.wrap ((BitVec.ofInt 64 i &&& BitVec.ofInt 64 j).toNat : Int)))
  | .xor => some ([], .i (IntKind.i64.wrap ((BitVec.ofInt 64 i ^^^ BitVec.ofInt 64 j).toNat : Int)))
  | _ => none
def u8F (i j : UInt8) : BinOp → Option EV
  | .lss => some (.b (decide (i.toNat < j.toNat)))
  | .leq => some (.b (decide (i.toNat ≤ j.toNat)))
  | .gtr => some (.b (decide (j.toNat < i.toNat)))
  | .geq => some (.b (decide (j.toNat ≤ i.toNat)))
  | .eql => some (.b (decide (i = j)))
  | .neq => some (.b (!decide (i = j)))
  | .add => some (.u8 (i + j))
  | .sub => some (.u8 (i - j))
  | .and => some (.u8 (i &&& j))
  | .or => some (.u8 (i ||| j))
  | .xor => some (.u8 (i ^^^ j))
  | _ => none
def u32F (i j : UInt32) : BinOp → Option EV
  | .lss => some (.b (decide (i.toNat < j.toNat)))
  | .leq => some (.b (decide (i.toNat ≤ j.toNat)))
  | .gtr => some (.b (decide (j.toNat < i.toNat)))
  | .geq => some (.b (decide (j.toNat ≤ i.toNat)))
  | .eql => some (.b (decide (i = j)))
  | .neq => some (.b (!decide (i = j)))
  | .add => some (.u32 (i + j))
  | .sub => some (.u32 (i - j))
  | .and => some (.u32 (i &&& j))
  | .or => some (.u32 (i ||| j))
  | .xor => some (.u32 (i ^^^ j))
  | .andNot => some (.u32 (i &&& ~~~j))
  | _ => none
def u64F (i j : UInt64) (op : BinOp) : Option EV := none
def strF (l m : List UInt8) : BinOp → Option (List Prop × EV)
  | .add => some ([l.length + m.length ≤ 9223372036854775807], .s (l ++ m))
  | .eql => some ([], .b (decide (l = m)))
  | .neq => some ([], .b (!decide (l = m)))
  | .lss => some ([], .b (Op.bytesLess l m))
  | .leq => some ([], .b (Op.bytesLess l m || decide (l = m)))
  | .gtr => some ([], .b (!(Op.bytesLess l m || decide (l = m))))
  | .geq => some ([], .b (!Op.bytesLess l m))
  | _ => none
def boolF (g q : Bool) : BinOp → Option EV
  | .eql => some (.b (g == q))
  | .neq => some (.b (!(g == q)))
  | _ => none
/-- A word shifted. -/
def shl32 (c : UInt32) (n : Nat) : UInt32 := UInt32.ofNat (c.toNat <<< n)
def shr32 (c : UInt32) (n : Nat) : UInt32 := UInt32.ofNat (c.toNat >>> n)
def shl64 (c : UInt64) (n : Nat) : UInt64 := UInt64.ofNat (c.toNat * 2 ^ min n 64)
def shr64 (c : UInt64) (n : Nat) : UInt64 := UInt64.ofNat (c.toNat / 2 ^ min n 64)
def shF (op : BinOp) (x y : EV) : Option (List Prop × EV) :=
  match asInt y with
  | none => none
  | some (_, j) => match asU32 x with
    | some c => match op with
      | .shl => some ([0 ≤ j ∧ j ≤ 32], .u32 (shl32 c j.toNat))
      | .shr => some ([0 ≤ j ∧ j ≤ 32], .u32 (shr32 c j.toNat))
      | _ => none
    | none => match asI64 x with
      | some i => match op with
        | .shr => some ([0 ≤ j ∧ j ≤ 63], .i (i / 2 ^ j.toNat))
        | .shl => some ([0 ≤ j ∧ j ≤ 63], .i (IntKind.i64.wrap (i * 2 ^ j.toNat)))
        | _ => none
      | none => match asU64 x with
        | some c => match op with
          | .shl => some ([0 ≤ j], .u64 (shl64 c j.toNat))
          | .shr => some ([0 ≤ j], .u64 (shr64 c j.toNat))
          | _ => none
        | none => none
def binF (wr : Bool) (op : BinOp) (x y : EV) : Option (List Prop × EV) :=
  match op with
  | .shl => shF .shl x y
  | .shr => shF .shr x y
  | op => match asI64 x, asI64 y with
    | some i, some j => intF wr i j op
    | _, _ => match asU8 x, asU8 y with
      | some i, some j => (u8F i j op).map fun z => ([], z)
      | _, _ => match asU32 x, asU32 y with
        | some i, some j => (u32F i j op).map fun z => ([], z)
        | _, _ => match asS x, asS y with
          | some i, some j => strF i j op
          | _, _ => match asU64 x, asU64 y with
            | some i, some j => (u64F i j op).map fun z => ([], z)
            | _, _ => none
/-- A number in another kind. -/
def convF (k' : IntKind) (x : EV) : Option EV :=
  match k' with
  | .u8 => match x with
    | .u32 c => some (.u8 (UInt8.ofNat c.toNat))
    | .u64 c => some (.u8 (UInt8.ofNat c.toNat))
    | .u8 c => some (.u8 c)
    | .v (.int _ i) => some (.u8 (u8of i))
    | _ => none
  | .u32 => match x with
    | .u8 c => some (.u32 (UInt32.ofNat c.toNat))
    | .u32 c => some (.u32 c)
    | .u64 c => some (.u32 (UInt32.ofNat c.toNat))
    | .v (.int _ i) => some (.u32 (UInt32.ofNat (i % 4294967296).toNat))
    | _ => none
  | .u64 => match x with
    | .u8 c => some (.u64 (UInt64.ofNat c.toNat))
    | .u32 c => some (.u64 (UInt64.ofNat c.toNat))
    | .u64 c => some (.u64 c)
    | .v (.int _ i) => some (.u64 (UInt64.ofNat (i % 18446744073709551616).toNat))
    | _ => none
  | .i64 => match x with
    | .u8 c => some (.i (c.toNat : Int))
    | .u32 c => some (.i (c.toNat : Int))
    | .u64 c => some (.i (IntKind.i64.wrap (c.toNat : Int)))
    | .v (.int .i64 i) => some (.i (IntKind.i64.wrap i))
    | .v (.int .u64 i) => some (.i (IntKind.i64.wrap i))
    | _ => none
  | k' => match x with
    | .u8 c => some (.v (.int k' (k'.wrap (c.toNat : Int))))
    | .u32 c => some (.v (.int k' (k'.wrap (c.toNat : Int))))
    | .v (.int _ i) => some (.v (.int k' (k'.wrap i)))
    | _ => none
/-- The first n of a list. -/
def tkE : Nat → List EV → Option (List EV)
  | 0, _ => some []
  | _ + 1, [] => none
  | n + 1, x :: xs => match tkE n xs with
    | some ys => some (x :: ys)
    | none => none
def dpE : Nat → List EV → List EV
  | 0, l => l
  | _ + 1, [] => []
  | n + 1, _ :: xs => dpE n xs
def ptE : Nat → List EV → List EV → Option (List EV)
  | _, l, [] => some l
  | _, [], _ :: _ => none
  | 0, _ :: l, x :: xs => match ptE 0 l xs with
    | some ys => some (x :: ys)
    | none => none
  | n + 1, y :: l, xs => match ptE n l xs with
    | some ys => some (y :: ys)
    | none => none
def nthE : Nat → List EV → Option EV
  | _, [] => none
  | 0, x :: _ => some x
  | n + 1, _ :: xs => nthE n xs
def csE : EV → List EV
  | .agg l => l
  | x => [x]
def oneE : EV → Bool
  | .v u => u.oneCell'
  | .u8 _ => true
  | .u32 _ => true
  | .u64 _ => true
  | .bs _ => true
  | .lz _ _ _ => true
  | .sl _ _ => true
  | .pp _ _ => true
  | .pb _ _ => true
  | .pz _ _ _ _ _ => true
  | .own _ _ => true
  | .po _ _ _ _ => true
  | .osl _ _ => true
  | .fn _ _ => true
  | .rp _ => true
  | .mref _ => true
  | _ => false
def onesE : List EV → Bool
  | [] => true
  | x :: xs => oneE x && onesE xs
def vsE : List Value → List EV
  | [] => []
  | x :: xs => .v x :: vsE xs
/-- The cells of a literal. -/
def fillE (pl : List (Nat × Nat × Bool)) : List EV → List (Nat × EV) → Option (List EV)
  | cells, [] => some cells
  | cells, (i, x) :: rest => match pl[i]? with
    | some (o, s, _) => bif Nat.beq (csE x).length s && onesE (csE x) && Nat.ble (o + s) cells.length then (match ptE o cells (csE x) with | some c => fillE pl c rest | none => none) else none
    | none => none
def elsE (sz : Nat) : Nat → List (Nat × EV) → Option (List EV)
  | _, [] => some []
  | k, (i, x) :: rest => bif Nat.beq i k && Nat.beq (csE x).length sz && onesE (csE x) && shL (csE x) then (match elsE sz (k + 1) rest with | some l => some (csE x ++ l) | none => none) else none
/-- The places of an array's elements. -/
def arPl (s : Nat) : Nat → Nat → List (Nat × Nat × Bool)
  | 0, _ => []
  | n + 1, o => (o, s, true) :: arPl s n (o + s)
/-- The cells of an element that is told by a function. -/
def lzE (f : Nat → Nat → EV) (i : Nat) : Nat → Nat → List EV
  | 0, _ => []
  | k + 1, j => f i j :: lzE f i k (j + 1)

/-- Structs, cell by cell. -/
def eqF : CK → EV → EV → Option Bool
  | .i .u8, x, y => match asU8 x, asU8 y with
    | some a, some b => some (decide (a = b))
    | _, _ => none
  | .i .u32, x, y => match asU32 x, asU32 y with
    | some a, some b => some (decide (a = b))
    | _, _ => none
  | .i .u64, x, y => match asU64 x, asU64 y with
    | some a, some b => some (decide (a = b))
    | _, _ => none
  | .i .i64, x, y => match asI64 x, asI64 y with
    | some a, some b => some (decide (a = b))
    | _, _ => none
  | .b, x, y => match asB x, asB y with
    | some a, some b => some (a == b)
    | _, _ => none
  | .s, x, y => match asS x, asS y with
    | some a, some b => some (decide (a = b))
    | _, _ => none
  | _, _, _ => none
def eqE : List CK → List EV → List EV → Option Bool
  | [], [], [] => some true
  | k :: ks, x :: xs, y :: ys => match eqF k x y with
    | some b => match ks with
      | [] => match xs, ys with
        | [], [] => some b
        | _, _ => none
      | _ => match eqE ks xs ys with
        | some c => some (b && c)
        | none => none
    | none => none
  | _, _, _ => none
/-- A word turned over. -/
def notF (x : EV) : Option EV :=
  match asU32 x with
  | some c => some (.u32 (~~~c))
  | none => match asU64 x with
    | some c => some (.u64 (~~~c))
    | none => none
/-- Is it nil? -/
def nilP : EV → Option Bool
  | .v (.pointer none) => some true
  | .rp t => some t.isNone
  | .pp _ _ => some false
  | .pb _ _ => some false
  | .pz _ _ _ _ _ => some false
  | .own _ _ => some false
  | .po _ _ _ _ => some false
  | _ => none
def isNilE : EV → Bool
  | .v (.pointer none) => true
  | _ => false
section
variable (tab : TT) (vs : List (Nat × EV)) (bs : List (Nat × EB)) (d : Nat)
abbrev ob_ (r : Nat) : EB := look .dead bs r
def one (C : List Prop) (x : EV) : Option RS := some ⟨C, [(d, x)], []⟩
def oneO : Option (List Prop × EV) → Option RS
  | some (C, x) => some ⟨C, [(d, x)], []⟩
  | none => none
/-- A shared view of a slice of the call's own; its row is written no more below its end. -/
def frz (x : Operand) : Option (EV × RS) :=
  match x with
  | .tmp t => match look .any vs t with
    | .osl r n => match ob_ bs r with
      | .rb l T _ => some (.bs l, ⟨[n = l.length], [(t, .bs l)], [(r, .rb l T l.length)]⟩)
      | .rz m sz f T _ => some (.lz m sz f, ⟨[n = m], [(t, .lz m sz f)], [(r, .rz m sz f T (m * sz))]⟩)
      | .row cells T sz _ => some (.sl cells n, ⟨[], [(t, .sl cells n)], [(r, .row cells T sz cells.length)]⟩)
      | _ => none
    | y => some (y, ⟨[], [], []⟩)
  | x => some (evOf vs x, ⟨[], [], []⟩)
/-- One value, or the cells of a struct, out of cells. -/
def getE (ti : TI) (own : Bool) (off : Nat) (cells : List EV) : Option (List Prop × EV) :=
  bif ti.agg then (match tkE ti.sz (dpE off cells) with
    | some l => bif own || shL l then some ([], .agg l) else none
    | none => none)
  else (match nthE off cells with
    | some y => bif own || y.sh then some ([], y) else none
    | none => none)
def getZ (ti : TI) (n sz : Nat) (f : Nat → Nat → EV) (i off : Nat) : Option (List Prop × EV) :=
  bif Nat.ble (off + ti.sz) sz && Nat.ble 1 ti.sz then
    (bif ti.agg then (bif shL (lzE f i ti.sz off) then some ([i < n], .agg (lzE f i ti.sz off)) else none)
    else (match f i off with | y => bif y.sh then some ([i < n], y) else none))
  else none
/-- A cell of a row with own kids, by its own names. -/
def mp1 (ns : List Nat) (x : EV) : Option EV := match x with
  | .osl q m => match ns[q]? with
    | some r => some (.osl r m)
    | none => none
  | x => bif x.sh then some x else none
def mpL (ns : List Nat) : List EV → Option (List EV)
  | [] => some []
  | x :: xs => match mp1 ns x with
    | some y => match mpL ns xs with
      | some l => some (y :: l)
      | none => none
    | none => none
def getA (ti : TI) (n sz : Nat) (f : Nat → Nat → EV) (ns : List Nat) (i off : Nat) : Option (List Prop × EV) :=
  bif Nat.ble (off + ti.sz) sz && Nat.ble 1 ti.sz then
    (bif ti.agg then (match mpL ns (lzE f i ti.sz off) with | some l => some ([i < n], .agg l) | none => none)
    else (match mp1 ns (f i off) with | some y => some ([i < n], y) | none => none))
  else none
/-- The place in the list of names is not led to. -/
def noL (i : Nat) (x : EV) : Prop := match x with
  | .osl q _ => q ≠ i
  | x => x.sh = true
/-- Cells, their names as places in a list. -/
def rnL : Nat → List EV → Option (List EV × List Nat)
  | _, [] => some ([], [])
  | k, x :: xs => match x with
    | .osl q m => match rnL (k + 1) xs with
      | some (l, ns) => some (.osl k m :: l, q :: ns)
      | none => none
    | x => bif x.sh then (match rnL k xs with | some (l, ns) => some (x :: l, ns) | none => none) else none
def isL0 (x : EV) : Prop := match x with
  | .osl q _ => q = 0
  | x => x.sh = true
def toL (n : Nat) (x : EV) : EV := match x with
  | .osl _ k => .osl n k
  | x => x
def raJ (n : Nat) (f g : Nat → Nat → EV) (a b : Nat) : EV := bif Nat.blt a n then f a b else toL n (g 0 b)
def loadF (T : TypeId) (x : EV) : Option (List Prop × EV) :=
  match tab.find T with
  | none => none
  | some ti => match x with
    | .own r off => match ob_ bs r with
      | .box cells _ => getE ti true off cells
      | .row cells _ _ _ => getE ti false off cells
      | .bz n f _ => bif ti.agg then (bif Nat.beq off 0 && Nat.beq ti.sz n then some ([], .az n f) else none) else (match f off with | y => bif y.sh then some ([off < n], y) else none)
      | _ => none
    | .po r s i off => match ob_ bs r with
      | .rb l _ _ => bif ti.agg then none else (bif Nat.beq s 1 && Nat.beq off 0 then some ([i < l.length], .u8 (l.getD i 0)) else none)
      | .rz n sz f _ _ => bif Nat.beq s sz then getZ ti n sz f i off else none
      | .row cells _ _ _ => getE ti false (i * s + off) cells
      | .ra n sz f _ ns => bif Nat.beq s sz then getA ti n sz f ns i off else none
      | _ => none
    | .pp cells off => getE ti false off cells
    | .pb l i => bif ti.agg then none else some ([i < l.length], .u8 (l.getD i 0))
    | .pz n sz f i off => getZ ti n sz f i off
    | _ => none
/-- An element stored into a row that is told by a function. -/
def stZ (f : Nat → Nat → EV) (i off : Nat) (l : List EV) (a b : Nat) : EV := bif Nat.beq a i && (Nat.ble off b && Nat.blt b (off + l.length)) then l.getD (b - off) .any else f a b
def storeF (T : TypeId) (x y : EV) : Option RS :=
  match tab.find T with
  | none => none
  | some ti => match x with
    | .own r off => match ob_ bs r with
      | .bz n f t => match y with
        | .az m g => bif Nat.beq off 0 && Nat.beq ti.sz n && Nat.beq m n then some ⟨[∀ i, i < m → oneE (g i) = true ∧ (g i).sh = true], [], [(r, .bz m g t)]⟩ else none
        | .agg l => bif Nat.beq off 0 && Nat.beq ti.sz n && Nat.beq l.length n && onesE l then some ⟨[], [], [(r, .box l t)]⟩ else none
        | y => bif Nat.beq ti.sz 1 && oneE y && y.sh then some ⟨[off < n], [], [(r, .bz n (fun a => bif Nat.beq a off then y else f a) t)]⟩ else none
      | .box cells t => match y with
       | .az m g => bif Nat.beq off 0 && Nat.beq ti.sz m && Nat.beq cells.length m then some ⟨[∀ i, i < m → oneE (g i) = true ∧ (g i).sh = true], [], [(r, .bz m g t)]⟩ else none
       | y => bif Nat.beq (csE y).length ti.sz && onesE (csE y) && Nat.ble (off + ti.sz) cells.length then (match ptE off cells (csE y) with | some c => some ⟨[], [], [(r, .box c t)]⟩ | none => none) else none
      | _ => none
    | .po r s i off => match ob_ bs r with
      | .rb l t pub => bif Nat.beq s 1 && Nat.beq off 0 && Nat.beq ti.sz 1 then (match asU8 y with | some c => some ⟨[i < l.length, pub ≤ i], [], [(r, .rb (l.set i c) t pub)]⟩ | none => none) else none
      | .row cells t sz pub => bif Nat.beq (csE y).length ti.sz && onesE (csE y) && shL (csE y) && Nat.ble (i * s + off + ti.sz) cells.length then (match ptE (i * s + off) cells (csE y) with | some c => some ⟨[pub ≤ i * s + off], [], [(r, .row c t sz pub)]⟩ | none => none) else none
      | .rz n sz f t pub => bif Nat.beq s sz && Nat.beq (csE y).length ti.sz && onesE (csE y) && shL (csE y) && Nat.ble (off + ti.sz) sz && Nat.ble 1 ti.sz then some ⟨[i < n, pub ≤ i * sz + off], [], [(r, .rz n sz (stZ f i off (csE y)) t pub)]⟩ else none
      | .ra n sz f t ns => bif Nat.beq s sz && Nat.ble (off + ti.sz) sz && Nat.ble 1 ti.sz then (match y with
        | .osl q m => bif Nat.beq ti.sz 1 && Nat.blt i ns.length then some ⟨[i < n, ∀ a, a < n → ∀ b, b < sz → (a = i ∧ b = off) ∨ noL i (f a b)], [], [(r, .ra n sz (stZ f i off [.osl i m]) t (ns.set i q))]⟩ else none
        | y => bif Nat.beq (csE y).length ti.sz && onesE (csE y) && shL (csE y) then some ⟨[i < n], [], [(r, .ra n sz (stZ f i off (csE y)) t ns)]⟩ else none) else none
      | _ => none
    | _ => none
def fldF (T f : Nat) (x : EV) : Option EV :=
  match tab.find T with
  | some ⟨.st pl, _, _, _, _⟩ => match pl[f]? with
    | some (o, .succ s, _) => match x with
      | .own r off => some (.own r (off + o))
      | .pp cells off => some (.pp cells (off + o))
      | .po r s i off => some (.po r s i (off + o))
      | .pz n s f i off => some (.pz n s f i (off + o))
      | _ => none
    | _ => none
  | _ => none
def idxF (T : TypeId) (x y : EV) : Option (List Prop × EV) :=
  match asInt y with
  | none => none
  | some (_, i) => match tab.find T with
    | some ⟨.sl _ s _ _, _, _, _, _⟩ => match x with
      | .bs l => bif Nat.beq s 1 then some ([0 ≤ i ∧ i < (l.length : Int)], .pb l i.toNat) else none
      | .lz n sz f => bif Nat.beq s sz then some ([0 ≤ i ∧ i < (n : Int)], .pz n sz f i.toNat 0) else none
      | .sl cells n => some ([0 ≤ i ∧ i < (n : Int)], .pp cells (i.toNat * s))
      | .osl r n => some ([0 ≤ i ∧ i < (n : Int)], .po r s i.toNat 0)
      | _ => none
    | some ⟨.ar n s _, _, _, _, _⟩ => match x with
      | .own r off => some ([0 ≤ i ∧ i < (n : Int)], .own r (off + i.toNat * s))
      | .pp cells off => some ([0 ≤ i ∧ i < (n : Int)], .pp cells (off + i.toNat * s))
      | _ => none
    | _ => none
def atF (T : TypeId) (x y : EV) : Option (List Prop × EV) :=
  match asInt y with
  | none => none
  | some (_, i) => match tab.find T with
    | some ⟨.str, _, _, _, _⟩ => match asS x with
      | some l => some ([0 ≤ i ∧ i < (l.length : Int)], .u8 (l.getD i.toNat 0))
      | none => none
    | some ⟨.ar n 1 e, _, _, _, _⟩ => match tab.find e with
      | some ⟨_, false, _, _, _⟩ => match x with
        | .agg l => match nthE i.toNat l with
          | some y => some ([0 ≤ i ∧ i < (n : Int)], y)
          | none => none
        | .az m f => match f i.toNat with | y => bif y.sh && Nat.beq m n then some ([0 ≤ i ∧ i < (n : Int)], y) else none
        | _ => none
      | _ => none
    | some ⟨.ar n s e, _, _, _, _⟩ => match tab.find e with
      | some ⟨_, true, _, _, _⟩ => match x with
        | .agg l => match tkE s (dpE (i.toNat * s) l) with
          | some y => some ([0 ≤ i ∧ i < (n : Int)], .agg y)
          | none => none
        | _ => none
      | _ => none
    | _ => none
/-- A part of a slice or a string. -/
def cutF (T : TypeId) (x : EV) (lo hi : Option EV) : Option (List Prop × EV) :=
  match (match lo with | none => some none | some y => (asInt y).map fun p => some p.2), (match hi with | none => some none | some y => (asInt y).map fun p => some p.2) with
  | some lo, some hi => match tab.find T with
    | some ⟨.str, _, _, _, _⟩ => match asS x with
      | some l => match lo, hi with
        | some i, none => some ([0 ≤ i ∧ i ≤ (l.length : Int)], .s (l.drop i.toNat))
        | none, some j => some ([0 ≤ j ∧ j ≤ (l.length : Int)], .s (l.take j.toNat))
        | some i, some j => some ([0 ≤ i ∧ i ≤ j ∧ j ≤ (l.length : Int)], .s ((l.drop i.toNat).take (j.toNat - i.toNat)))
        | none, none => none
      | none => none
    | some ⟨.sl _ s _ _, _, _, _, _⟩ => match x with
      | .bs l => bif Nat.beq s 1 then (match lo, hi with
        | some i, none => some ([0 ≤ i ∧ i ≤ (l.length : Int)], .bs (l.drop i.toNat))
        | none, some j => some ([0 ≤ j ∧ j ≤ (l.length : Int)], .bs (l.take j.toNat))
        | some i, some j => some ([0 ≤ i ∧ i ≤ j ∧ j ≤ (l.length : Int)], .bs ((l.drop i.toNat).take (j.toNat - i.toNat)))
        | none, none => none) else none
      | .lz n sz f => bif Nat.beq s sz then (match lo, hi with
        | some i, none => some ([0 ≤ i ∧ i ≤ (n : Int)], .lz (n - i.toNat) sz (fun a b => f (i.toNat + a) b))
        | none, some j => some ([0 ≤ j ∧ j ≤ (n : Int)], .lz j.toNat sz f)
        | some i, some j => some ([0 ≤ i ∧ i ≤ j ∧ j ≤ (n : Int)], .lz (j.toNat - i.toNat) sz (fun a b => f (i.toNat + a) b))
        | none, none => none) else none
      | _ => none
    | _ => none
  | _, _ => none
def lenF (x : EV) : Option Int :=
  match x with
  | .bs l => some (l.length : Int)
  | .lz n _ _ => some (n : Int)
  | .sl _ n => some (n : Int)
  | .osl _ n => some (n : Int)
  | .v (.slice _ m _) => some (m : Int)
  | .v (.string ⟨⟨l⟩⟩) => some (l.length : Int)
  | _ => none
/-- What is appended: n elements of these cells. -/
inductive SrcE where
  | by_ (l : List UInt8)
  | lz (n sz : Nat) (f : Nat → Nat → EV)
  | cs (l : List EV) (n : Nat)
def srcF (sz : Nat) (y : EV) : Option (List Prop × SrcE) :=
  match y with
  | .bs l => some ([], .by_ l)
  | .lz n sz f => some ([], .lz n sz f)
  | .sl l n => some ([], .cs l n)
  | .v (.slice none 0 0) => some ([], .cs [] 0)
  | .osl r n => match ob_ bs r with
    | .rb l _ _ => some ([n = l.length], .by_ l)
    | .rz m sz f _ _ => some ([n = m], .lz m sz f)
    | .row l _ z _ => bif Nat.beq z sz then some ([], .cs l n) else none
    | _ => none
  | _ => none
/-- The name of a block that the operation with this place makes. -/
def nmB (d : Nat) : Nat := 1000 + d
def allocF (T : TypeId) : Option RS :=
  match tab.find T with
  | some ⟨_, _, _, some z, _⟩ => some ⟨[], [(d, .own (nmB d) 0)], [(nmB d, .box (vsE z) T)]⟩
  | _ => none
def boxF (T : TypeId) (x : EV) : Option RS := match x with
  | .az n f => some ⟨[∀ i, i < n → oneE (f i) = true ∧ (f i).sh = true], [(d, .own (nmB d) 0)], [(nmB d, .bz n f T)]⟩
  | x => bif onesE (csE x) then some ⟨[], [(d, .own (nmB d) 0)], [(nmB d, .box (csE x) T)]⟩ else none
def partsE : List (Nat × Operand) → List (Nat × EV)
  | [] => []
  | (i, x) :: l => (i, evOf vs x) :: partsE l
def buildF (T : TypeId) (parts : List (Nat × Operand)) : Option RS :=
  match tab.find T with
  | some ⟨.st pl, _, _, some z, _⟩ => match fillE pl (vsE z) (partsE vs parts) with
    | some l => some ⟨[], [(d, .agg l)], []⟩
    | none => none
  | some ⟨.ar n s e, _, _, some z, _⟩ => match fillE (arPl s n 0) (vsE z) (partsE vs parts) with
    | some l => some ⟨[], [(d, .agg l)], []⟩
    | none => none
  | _ => none
def isU8 (e sz by_ : Nat) (z : List Value) : Bool := match tab.find e with
  | some ⟨.int .u8, _, _, _, _⟩ => Nat.beq sz 1 && Nat.ble by_ 10000 && (match z with
    | [.int .u8 (.ofNat 0)] => true
    | _ => false)
  | _ => false
/-- The bytes of cells. -/
def u8sE : List EV → Option (List UInt8)
  | [] => some []
  | .u8 c :: l => match u8sE l with | some m => some (c :: m) | none => none
  | .v (.int .u8 (.ofNat m)) :: l => bif Nat.blt m 256 then (match u8sE l with | some q => some (UInt8.ofNat m :: q) | none => none) else none
  | _ :: _ => none
def buildSliceF (T : TypeId) (len : Nat) (parts : List (Nat × Operand)) : Option RS :=
  match tab.find T with
  | some ⟨.sl e sz by_ z, _, _, _, _⟩ => match elsE sz 0 (partsE vs parts) with
    | some l => bif Nat.beq parts.length len && Nat.ble (len * sz) 1000000 then
        (match u8sE l with
        | some q => bif isU8 tab e sz by_ z then some ⟨[], [(d, .osl (nmB d) len)], [(nmB d, .rb q e 0)]⟩ else some ⟨[], [(d, .osl (nmB d) len)], [(nmB d, .row l e sz 0)]⟩
        | none => some ⟨[], [(d, .osl (nmB d) len)], [(nmB d, .row l e sz 0)]⟩) else none
    | none => match parts with
      | [(0, x)] => match rnL 0 (csE (evOf vs x)) with
        | some (l, ns) => bif Nat.beq len 1 && Nat.beq (csE (evOf vs x)).length sz && onesE (csE (evOf vs x)) && Nat.ble sz 1000000 && !ns.contains (nmB d) then some ⟨[], [(d, .osl (nmB d) len)], [(nmB d, .ra 1 sz (fun _ j => l.getD j .any) e ns)]⟩ else none
        | none => none
      | _ => none
  | _ => none
def zF (z : List Value) (_ j : Nat) : EV := .v (z.getD j undef)
def makeF (T : TypeId) (x y : EV) : Option RS :=
  match asI64 x, asI64 y with
  | some i, some j => match tab.find T with
    | some ⟨.sl e sz by_ z, _, _, _, _⟩ =>
      bif isU8 tab e sz by_ z then some ⟨[0 ≤ i ∧ i ≤ j ∧ j ≤ 1000000000], [(d, .osl (nmB d) i.toNat)], [(nmB d, .rb (List.replicate i.toNat 0) e 0)]⟩
      else bif Nat.ble by_ 10000 then some ⟨[0 ≤ i ∧ i ≤ j ∧ j ≤ 1000000000], [(d, .osl (nmB d) i.toNat)], [(nmB d, .rz i.toNat sz (zF z) e 0)]⟩ else none
    | _ => none
  | _, _ => none
/-- How many groups of so many cells. -/
def grpE (s : Nat) : Nat → List EV → Option Nat
  | k, [] => bif Nat.beq (k + 1) s then some 0 else none
  | 0, _ :: l => match grpE s (s - 1) l with
    | some q => some (q + 1)
    | none => none
  | k + 1, _ :: l => grpE s k l
theorem grpE_ok {s : Nat} (hs : 0 < s) : ∀ {l : List EV} {k q : Nat}, k < s → grpE s k l = some q → l.length + (s - 1 - k) = q * s
  | [], k, q, hk, h => by
    unfold grpE at h
    cases hb : Nat.beq (k + 1) s with
    | false => rw [hb] at h; cases h
    | true => rw [hb] at h; cases h; have := Nat.eq_of_beq_eq_true hb; simp; omega
  | x :: l, 0, q, hk, h => by
    unfold grpE at h
    split at h
    · next q' hq =>
      cases h
      have := grpE_ok hs (l := l) (k := s - 1) (by omega) hq
      rw [Nat.add_mul, List.length_cons]; omega
    · cases h
  | x :: l, k + 1, q, hk, h => by
    unfold grpE at h
    have := grpE_ok hs (l := l) (k := k) (by omega) h
    rw [List.length_cons]; omega
/-- A row with more behind it. -/
def joinF (t : TypeId) (sz pub : Nat) : EB → SrcE → Option EB
  | .rb l _ _, .by_ m => some (.rb (l ++ m) t pub)
  | .rb l _ _, .cs c _ => match u8sE c with
    | some m => some (.rb (l ++ m) t pub)
    | none => none
  | .row l _ _ _, .cs m _ => some (.row (l ++ m) t sz pub)
  | .rz n sz' f _ _, .cs m k => bif Nat.beq sz' sz then some (.rz (n + k) sz (fun i j => bif Nat.blt i n then f i j else m.getD ((i - n) * sz + j) .any) t pub) else none
  | .rz n sz' f _ _, .lz k sz'' g => bif Nat.beq sz' sz && Nat.beq sz'' sz then some (.rz (n + k) sz (fun i j => bif Nat.blt i n then f i j else g (i - n) j) t pub) else none
  | .row l _ _ _, .lz k sz'' g => match grpE sz (sz - 1) l with
    | some q => bif Nat.beq sz'' sz && Nat.blt 0 sz then some (.rz (q + k) sz (fun i j => bif Nat.blt i q then l.getD (i * sz + j) .any else g (i - q) j) t pub) else none
    | none => none
  | _, _ => none
def newF (t : TypeId) (sz : Nat) : SrcE → EB
  | .by_ m => .rb m t 0
  | .lz n z f => .rz n z f t 0
  | .cs m _ => .row m t sz 0
def SrcE.len : SrcE → Nat
  | .by_ m => m.length
  | .lz n _ _ => n
  | .cs _ n => n
def SrcE.szOk (sz : Nat) : SrcE → Bool
  | .by_ _ => Nat.beq sz 1
  | .lz _ z _ => Nat.beq z sz
  | .cs _ _ => true
def SrcE.okC (sz : Nat) : SrcE → List Prop
  | .cs m n => [m.length = n * sz]
  | _ => []
def EB.lenC (sz n : Nat) : EB → List Prop
  | .rb l _ _ => [n = l.length]
  | .rz m _ _ _ _ => [n = m]
  | .row m _ _ _ => [n * sz = m.length]
  | _ => [False]
def EB.pub : EB → Nat
  | .rb _ _ p => p
  | .rz _ _ _ _ p => p
  | .row _ _ _ p => p
  | _ => 0
def EB.okSz (sz : Nat) (e : TypeId) : EB → Bool
  | .rb _ t _ => Nat.beq sz 1 && Nat.beq t e
  | .rz _ z _ t _ => Nat.beq z sz && Nat.beq t e
  | .row _ t z _ => Nat.beq z sz && Nat.beq t e
  | _ => false
def nmZ (d : Nat) : Nat := 500000 + d
/-- One more element behind a row with own kids. -/
def raA (e sz : Nat) (x y : EV) : Option RS :=
  match x with
  | .osl r m => match y with
    | .osl r2 m2 => match ob_ bs r with
      | .ra n z f t ns => match ob_ bs r2 with
        | .ra n2 z2 f2 t2 ns2 => match ns2 with
          | [q] => bif Nat.beq z sz && Nat.beq z2 sz && Nat.beq n2 1 && Nat.beq m2 1 && Nat.beq t e && Nat.blt n ns.length && !(ns.set n q).contains (nmB d) then
              some ⟨[m = n, n ≤ 1000000, ∀ a, a < n → ∀ b, b < sz → noL n (f a b), ∀ b, b < sz → isL0 (f2 0 b)], [(d, .osl (nmB d) (n + 1))], [(nmB d, .ra (n + 1) sz (raJ n f f2) e (ns.set n q)), (r, .dead)]⟩ else none
          | _ => none
        | _ => none
      | _ => none
    | _ => none
  | _ => none
def appendF (T : TypeId) (x y : EV) : Option RS :=
  match tab.find T with
  | some ⟨.sl e sz by_ _, _, _, _, _⟩ => bif Nat.ble by_ 10000 && Nat.ble 1 sz then (match srcF bs sz y with
    | some (C, src) => bif src.szOk sz then (match x with
      | .osl r n => bif (ob_ bs r).okSz sz e then (match joinF e sz (ob_ bs r).pub (ob_ bs r) src with
        | some eb => some ⟨C ++ (src.okC sz ++ ((ob_ bs r).lenC sz n ++ [n + src.len ≤ 1000000000])), [(d, .osl (nmB d) (n + src.len))], [(nmB d, eb), (r, .dead)]⟩
        | none => none) else none
      | .v (.slice none 0 0) => some ⟨C ++ (src.okC sz ++ [src.len ≤ 1000000000]), [(d, .osl (nmB d) src.len)], [(nmB d, newF e sz src), (nmZ d, .dead)]⟩
      | _ => none) else none
    | none => raA bs d e sz x y) else none
  | _ => none
def convAnyF (T T' : TypeId) (x : Operand) : Option RS :=
  match tab.find T, tab.find T' with
  | some ⟨k, _, _, _, _⟩, some ⟨k', _, _, _, _⟩ => match k' with
    | .int k2 => match convF k2 (evOf vs x) with
      | some y => some ⟨[], [(d, y)], []⟩
      | none => none
    | .str => match k with
      | .str => match asS (evOf vs x) with
        | some l => some ⟨[], [(d, .s l)], []⟩
        | none => none
      | .sl e sz by_ z => bif isU8 tab e sz by_ z then (match frz vs bs x with
        | some (.bs l, R) => some ⟨R.C, (d, .s l) :: R.sl, R.hp⟩
        | some (.v (.slice none 0 0), R) => some ⟨R.C, (d, .s []) :: R.sl, R.hp⟩
        | _ => none) else none
      | _ => none
    | .sl e sz by_ z => match k with
      | .str => bif isU8 tab e sz by_ z && Nat.beq e 5 then (match asS (evOf vs x) with
        | some l => some ⟨[l.length ≤ 1000000000], [(d, .osl (nmB d) l.length)], [(nmB d, .rb l e 0)]⟩
        | none => none) else none
      | .sl _ _ _ _ => bif Nat.beq T T' && isU8 tab e sz by_ z then (match evOf vs x with
        | .osl r n => match ob_ bs r with
          | .rb _ t _ => bif Nat.beq t 5 then some ⟨[0 < n], [(d, .osl r n)], []⟩ else none
          | _ => none
        | _ => none) else none
      | _ => none
    | _ => none
  | _, _ => none
def optE : Option Operand → Option EV
  | none => none
  | some x => some (evOf vs x)
def sliceF (T : TypeId) (x : Operand) (lo hi : Option Operand) : Option RS :=
  match frz vs bs x with
  | some (y, R) => match cutF tab T y (optE vs lo) (optE vs hi) with
    | some (C, z) => some ⟨R.C ++ C, (d, z) :: R.sl, R.hp⟩
    | none => none
  | none => none
def builtinF (b : Builtin) (args : List Operand) (ty : TypeId) (argTypes : List TypeId) : Option RS :=
  match b, args, argTypes with
  | .len, [x], [T] => match tab.find T with
    | some ⟨.sl _ _ _ _, _, _, _, _⟩ => match asS (evOf vs x) with
      | some _ => none
      | none => match lenF (evOf vs x) with
        | some z => some ⟨[], [(d, .i z)], []⟩
        | none => none
    | some ⟨.str, _, _, _, _⟩ => match asS (evOf vs x) with
      | some l => some ⟨[], [(d, .i (l.length : Int))], []⟩
      | none => none
    | some ⟨.mp _ _, _, _, _, _⟩ => match evOf vs x with
      | .mref r => match ob_ bs r with
        | .mp es => some ⟨[], [(d, .i (es.length : Int))], []⟩
        | _ => none
      | _ => none
    | _ => none
  | .copy, [x, y], [T, _] => match tab.find T with
    | some ⟨.sl e s _ _, _, _, _, _⟩ => bif Nat.beq s 1 then (match evOf vs x with
      | .osl r n => match ob_ bs r with
        | .rb l t pub => bif Nat.beq t e then (match (match asS (evOf vs y) with | some m => some m | none => (match evOf vs y with | .bs m => some m | _ => none)) with
          | some m => some ⟨[n = l.length, 0 < n, pub = 0], [(d, .i (Nat.min m.length n : Nat))], [(r, .rb (m.take n ++ l.drop (m.take n).length) t pub)]⟩
          | none => none) else none
        | _ => none
      | _ => none) else none
    | _ => none
  | .append, [x, y], [T, T'] => bif Nat.beq T T' then appendF tab bs d T (evOf vs x) (evOf vs y) else none
  | .min, [x, y], [_, _] => match tab.find ty with
    | some ⟨.int .i64, _, _, _, _⟩ => match asI64 (evOf vs x), asI64 (evOf vs y) with
      | some i, some j => some ⟨[], [(d, .i (min i j))], []⟩
      | _, _ => none
    | some ⟨.str, _, _, _, _⟩ => match asS (evOf vs x), asS (evOf vs y) with
      | some i, some j => some ⟨[], [(d, .s (bif Op.bytesLess i j || decide (i = j) then i else j))], []⟩
      | _, _ => none
    | _ => none
  | .max, [x, y], [_, _] => match tab.find ty with
    | some ⟨.int .i64, _, _, _, _⟩ => match asI64 (evOf vs x), asI64 (evOf vs y) with
      | some i, some j => some ⟨[], [(d, .i (max i j))], []⟩
      | _, _ => none
    | some ⟨.int .u8, _, _, _, _⟩ => match asU8 (evOf vs x), asU8 (evOf vs y) with
      | some i, some j => some ⟨[], [(d, .u8 (if i < j then j else i))], []⟩
      | _, _ => none
    | some ⟨.str, _, _, _, _⟩ => match asS (evOf vs x), asS (evOf vs y) with
      | some i, some j => some ⟨[], [(d, .s (bif Op.bytesLess i j then j else i))], []⟩
      | _, _ => none
    | _ => none
  | _, _, _ => none
/-- An operation that makes a slot, without a guard. -/
def opF (wr : Bool) (ty : TypeId) : Op → Option RS
  | .move x => (evOf vs x).fc fun y => some ⟨[], [(d, y)], []⟩
  | .assign x => (evOf vs x).fc fun y => some ⟨[], [(d, y)], []⟩
  | .unOp .not _ x => match asB (evOf vs x) with
    | some g => some ⟨[], [(d, .b (!g))], []⟩
    | none => none
  | .unOp .neg _ x => match asI64 (evOf vs x) with
    | some i => oneO d (arF wr (-i))
    | none => none
  | .unOp .xor _ x => match notF (evOf vs x) with
    | some y => some ⟨[], [(d, y)], []⟩
    | none => none
  | .binOp op T x y _ => match tab.find T with
    | some ⟨.bool, _, _, _, _⟩ => match asB (evOf vs x), asB (evOf vs y) with
      | some i, some j => match boolF i j op with
        | some z => some ⟨[], [(d, z)], []⟩
        | none => none
      | _, _ => none
    | some ⟨.ptr, _, _, _, _⟩ => bif isNilE (evOf vs y) then (match nilP (evOf vs x) with
      | some b => match op with
        | .eql => some ⟨[], [(d, .b b)], []⟩
        | .neq => some ⟨[], [(d, .b (!b))], []⟩
        | _ => none
      | none => none) else none
    | some ⟨.st _, true, _, _, some ks⟩ => match evOf vs x, evOf vs y with
      | .agg xs, .agg ys => match eqE ks xs ys with
        | some b => match op with
          | .eql => some ⟨[], [(d, .b b)], []⟩
          | .neq => some ⟨[], [(d, .b (!b))], []⟩
          | _ => none
        | none => none
      | _, _ => none
    | _ => oneO d (binF wr op (evOf vs x) (evOf vs y))
  | .convert T T' x => convAnyF tab vs bs d T T' x
  | .alloc T => allocF tab d T
  | .box T x => boxF d T (evOf vs x)
  | .build T parts => buildF tab vs d T parts.toList
  | .buildSlice T len parts => buildSliceF tab vs d T len parts.toList
  | .makeSlice T x y => makeF tab d T (evOf vs x) (evOf vs y)
  | .load T x => oneO d (loadF tab bs T (evOf vs x))
  | .nilCheck x => match evOf vs x with
    | .own r o => some ⟨[], [(d, .own r o)], []⟩
    | .pp c o => some ⟨[], [(d, .pp c o)], []⟩
    | .po r s i o => some ⟨[], [(d, .po r s i o)], []⟩
    | .pz n s f i o => some ⟨[], [(d, .pz n s f i o)], []⟩
    | _ => none
  | .fieldAddr T x f => match fldF tab T f (evOf vs x) with
    | some y => some ⟨[], [(d, y)], []⟩
    | none => none
  | .indexAddr T x y => oneO d (idxF tab T (evOf vs x) (evOf vs y))
  | .index T x y => oneO d (atF tab T (evOf vs x) (evOf vs y))
  | .slice T x lo hi none => sliceF tab vs bs d T x lo hi
  | .extract x i => match evOf vs x with
    | .tup l => match nthE i l with
      | some y => some ⟨[], [(d, y)], []⟩
      | none => none
    | _ => none
  | .field T x f => match tab.find T with
    | some ⟨.st pl, _, _, _, _⟩ => match pl[f]? with
      | some (o, _, true) => match evOf vs x with
        | .agg l => match nthE o l with
          | some y => some ⟨[], [(d, y)], []⟩
          | none => none
        | _ => none
      | _ => none
    | _ => none
  | .call c => match c.callee with
    | .builtin b => builtinF tab vs bs d b c.args.toList ty c.argTypes.toList
    | _ => none
  | _ => none
end
end Go.Proofs.YtcebndkiagbddaaGreatDoor

/- What is computed of an operation on numbers, bytes, words and strings is so. It names no function of the program. -/
namespace Go.Proofs.YtcebndkiagbddaaGreatDoor
open Go.RowKit
set_option linter.unusedVariables false
set_option linter.unusedSimpArgs false

theorem nat_eq {a b : Nat} (h : Nat.beq a b = true) : a = b := Nat.eq_of_beq_eq_true h
theorem asI64_eq {x : EV} {i : Int} (h : asI64 x = some i) : x = .i i := by
  unfold asI64 at h; split at h <;> cases h; rfl
theorem asB_eq {x : EV} {i : Bool} (h : asB x = some i) : x = .b i := by
  unfold asB at h; split at h <;> cases h; rfl
theorem asS_eq {x : EV} {i : List UInt8} (h : asS x = some i) : x = .s i := by
  unfold asS at h; split at h <;> cases h; rfl
theorem nilP_ok {x : EV} {b : Bool} (h : nilP x = some b) {y : AV} (g : Gv y x.av) : isPtr b y := by
  unfold nilP at h
  split at h <;> cases h <;> intro w Pub φ u hu <;> have k := g _ _ _ _ hu <;> (first | unfold EV.av at k | skip) <;> (first | unfold EV.pv at k | skip) <;> unfold RA at k
  · unfold RP at k; exact ⟨none, k, rfl⟩
  · next t =>
    cases t with
    | none => unfold rpP RP at k; exact ⟨none, k, rfl⟩
    | some c => unfold rpP RP at k; obtain ⟨b, o, e, _⟩ := k; exact ⟨_, e, rfl⟩
  · unfold RP at k; obtain ⟨b, o, e, _⟩ := k; exact ⟨_, e, rfl⟩
  · unfold RP at k; obtain ⟨b, o, e, _⟩ := k; exact ⟨_, e, rfl⟩
  · unfold RP at k; obtain ⟨b, o, e, _⟩ := k; exact ⟨_, e, rfl⟩
  · obtain ⟨b, c, _, e⟩ := k; exact ⟨_, e, rfl⟩
  · obtain ⟨b, c, _, e⟩ := k; exact ⟨_, e, rfl⟩
theorem isNilE_ok {x : EV} (h : isNilE x = true) : x = .v (.pointer none) := by
  unfold isNilE at h; split at h
  · rfl
  · cases h
theorem asInt_gv {x : EV} {k : IntKind} {i : Int} (h : asInt x = some (k, i)) : Gv x.av (.p (.v (.int k i))) := by
  unfold asInt at h; split at h <;> cases h <;> exact Gv.r
theorem asU8_gv {x : EV} {c : UInt8} (h : asU8 x = some c) : Gv x.av (.p (b8P c)) := by
  unfold asU8 at h
  split at h
  · cases h; exact Gv.r
  · next m =>
    cases hb : Nat.blt m 256 with
    | false => rw [hb] at h; cases h
    | true =>
      rw [hb] at h; cases h
      rw [Nat.blt_eq] at hb
      have e : ((UInt8.ofNat m).toNat : Int) = Int.ofNat m := by rw [UInt8.toNat_ofNat']; simp; omega
      show Gv (.p (.v (.int .u8 (Int.ofNat m)))) (.p (.v (.int .u8 ((UInt8.ofNat m).toNat : Int))))
      rw [e]; exact Gv.r
  · cases h
theorem asU32_gv {x : EV} {c : UInt32} (h : asU32 x = some c) : Gv x.av (.p (u32P c)) := by
  unfold asU32 at h
  split at h
  · cases h; exact Gv.r
  · next m =>
    cases hb : Nat.blt m 4294967296 with
    | false => rw [hb] at h; cases h
    | true =>
      rw [hb] at h; cases h
      rw [Nat.blt_eq] at hb
      have e : ((UInt32.ofNat m).toNat : Int) = Int.ofNat m := by rw [UInt32.toNat_ofNat']; simp; omega
      show Gv (.p (.v (.int .u32 (Int.ofNat m)))) (.p (.v (.int .u32 ((UInt32.ofNat m).toNat : Int))))
      rw [e]; exact Gv.r
  · cases h
theorem bv32 (c : UInt32) : BitVec.ofInt 32 (c.toNat : Int) = c.toBitVec := by
  apply BitVec.eq_of_toNat_eq
  have := c.toNat_lt
  rw [BitVec.toNat_ofInt]
  show _ = c.toNat
  simp only [Nat.reducePow, Int.cast_ofNat_Int]
  omega
theorem u32id (c : UInt32) : IntKind.u32.wrap (c.toNat : Int) = (c.toNat : Int) := by
  have := c.toNat_lt
  rw [IntKind.wrap_u32]; omega
theorem u32xor (b c : UInt32) : IntKind.u32.wrap ((BitVec.ofInt IntKind.u32.bits (b.toNat : Int) ^^^ BitVec.ofInt IntKind.u32.bits (c.toNat : Int)).toNat : Int) = ((b ^^^ c).toNat : Int) := by
  show IntKind.u32.wrap ((BitVec.ofInt 32 (b.toNat : Int) ^^^ BitVec.ofInt 32 (c.toNat : Int)).toNat : Int) = _
  rw [bv32, bv32, ← UInt32.toBitVec_xor]; exact u32id _
theorem u32or (b c : UInt32) : IntKind.u32.wrap ((BitVec.ofInt IntKind.u32.bits (b.toNat : Int) ||| BitVec.ofInt IntKind.u32.bits (c.toNat : Int)).toNat : Int) = ((b ||| c).toNat : Int) := by
  show IntKind.u32.wrap ((BitVec.ofInt 32 (b.toNat : Int) ||| BitVec.ofInt 32 (c.toNat : Int)).toNat : Int) = _
  rw [bv32, bv32, ← UInt32.toBitVec_or]; exact u32id _
theorem u32and (b c : UInt32) : IntKind.u32.wrap ((BitVec.ofInt IntKind.u32.bits (b.toNat : Int) &&& BitVec.ofInt IntKind.u32.bits (c.toNat : Int)).toNat : Int) = ((b &&& c).toNat : Int) := by
  show IntKind.u32.wrap ((BitVec.ofInt 32 (b.toNat : Int) &&& BitVec.ofInt 32 (c.toNat : Int)).toNat : Int) = _
  rw [bv32, bv32, ← UInt32.toBitVec_and]; exact u32id _
theorem u32andNot (b c : UInt32) : IntKind.u32.wrap ((BitVec.ofInt IntKind.u32.bits (b.toNat : Int) &&& ~~~ BitVec.ofInt IntKind.u32.bits (c.toNat : Int)).toNat : Int) = ((b &&& ~~~c).toNat : Int) := by
  show IntKind.u32.wrap ((BitVec.ofInt 32 (b.toNat : Int) &&& ~~~ BitVec.ofInt 32 (c.toNat : Int)).toNat : Int) = _
  rw [bv32, bv32, ← UInt32.toBitVec_not, ← UInt32.toBitVec_and]; exact u32id _
theorem u32add (b c : UInt32) : IntKind.u32.wrap ((b.toNat : Int) + (c.toNat : Int)) = ((b + c).toNat : Int) := by
  rw [IntKind.wrap_u32, UInt32.toNat_add]; simp
theorem u32sub (b c : UInt32) : IntKind.u32.wrap ((b.toNat : Int) - (c.toNat : Int)) = ((b - c).toNat : Int) := by
  have := b.toNat_lt; have := c.toNat_lt
  rw [IntKind.wrap_u32, UInt32.toNat_sub]; simp; omega
theorem asU64_gv {x : EV} {c : UInt64} (h : asU64 x = some c) : Gv x.av (.p (u64P c)) := by
  unfold asU64 at h
  split at h
  · cases h; exact Gv.r
  · next m =>
    cases hb : Nat.blt m 18446744073709551616 with
    | false => rw [hb] at h; cases h
    | true =>
      rw [hb] at h; cases h
      rw [Nat.blt_eq] at hb
      have e : ((UInt64.ofNat m).toNat : Int) = Int.ofNat m := by rw [UInt64.toNat_ofNat']; simp; omega
      show Gv (.p (.v (.int .u64 (Int.ofNat m)))) (.p (.v (.int .u64 ((UInt64.ofNat m).toNat : Int))))
      rw [e]; exact Gv.r
  · cases h
theorem bv64 (c : UInt64) : BitVec.ofInt 64 (c.toNat : Int) = c.toBitVec := by
  apply BitVec.eq_of_toNat_eq
  have := c.toNat_lt
  rw [BitVec.toNat_ofInt]
  show _ = c.toNat
  simp only [Nat.reducePow, Int.cast_ofNat_Int]
  omega
theorem u64id (c : UInt64) : IntKind.u64.wrap (c.toNat : Int) = (c.toNat : Int) := by
  have := c.toNat_lt
  rw [IntKind.wrap_u64]; omega
theorem u8add (b c : UInt8) : IntKind.u8.wrap ((b.toNat : Int) + (c.toNat : Int)) = ((b + c).toNat : Int) := by
  rw [IntKind.wrap_u8, UInt8.toNat_add]; simp
theorem u8sub (b c : UInt8) : IntKind.u8.wrap ((b.toNat : Int) - (c.toNat : Int)) = ((b - c).toNat : Int) := by
  have := b.toNat_lt; have := c.toNat_lt
  rw [IntKind.wrap_u8, UInt8.toNat_sub]; simp; omega

theorem asU8_v {x : EV} {c : UInt8} (h : asU8 x = some c) : x.av = .p (.v (.int .u8 (c.toNat : Int))) := by
  unfold asU8 at h
  split at h
  · cases h; rfl
  · next m =>
    obtain ⟨hb, h⟩ := bif_some h
    cases h
    rw [Nat.blt_eq] at hb
    show AV.p (.v (.int .u8 (Int.ofNat m))) = _
    rw [UInt8.toNat_ofNat', Nat.mod_eq_of_lt (by simpa using hb)]; rfl
  · cases h
theorem asU32_v {x : EV} {c : UInt32} (h : asU32 x = some c) : x.av = .p (.v (.int .u32 (c.toNat : Int))) := by
  unfold asU32 at h
  split at h
  · cases h; rfl
  · next m =>
    obtain ⟨hb, h⟩ := bif_some h
    cases h
    rw [Nat.blt_eq] at hb
    show AV.p (.v (.int .u32 (Int.ofNat m))) = _
    rw [UInt32.toNat_ofNat', Nat.mod_eq_of_lt (by simpa using hb)]; rfl
  · cases h
theorem asU64_v {x : EV} {c : UInt64} (h : asU64 x = some c) : x.av = .p (.v (.int .u64 (c.toNat : Int))) := by
  unfold asU64 at h
  split at h
  · cases h; rfl
  · next m =>
    obtain ⟨hb, h⟩ := bif_some h
    cases h
    rw [Nat.blt_eq] at hb
    show AV.p (.v (.int .u64 (Int.ofNat m))) = _
    rw [UInt64.toNat_ofNat', Nat.mod_eq_of_lt (by simpa using hb)]; rfl
  · cases h
theorem eqF_ok {k : CK} {x y : EV} {b : Bool} (h : eqF k x y = some b) : ∃ u v, x.av = .p (.v u) ∧ y.av = .p (.v v) ∧ k.ok u ∧ k.ok v ∧ eqCell u v = b := by
  have dd : ∀ {a c : Prop} [Decidable a] [Decidable c], (a ↔ c) → decide a = decide c := fun {a c} _ _ h => by simp only [h]
  have nn : ∀ {a c : Nat}, ((a : Int) == (c : Int)) = decide (a = c) := fun {a c} => by rw [Bool.eq_iff_iff]; simp; omega
  unfold eqF at h
  split at h
  · split at h
    · next a c ha hc => cases h; exact ⟨_, _, asU8_v ha, asU8_v hc, rfl, rfl, by show ((_ : Int) == _) = _; rw [nn]; exact dd UInt8.toNat_inj⟩
    · cases h
  · split at h
    · next a c ha hc => cases h; exact ⟨_, _, asU32_v ha, asU32_v hc, rfl, rfl, by show ((_ : Int) == _) = _; rw [nn]; exact dd UInt32.toNat_inj⟩
    · cases h
  · split at h
    · next a c ha hc => cases h; exact ⟨_, _, asU64_v ha, asU64_v hc, rfl, rfl, by show ((_ : Int) == _) = _; rw [nn]; exact dd UInt64.toNat_inj⟩
    · cases h
  · split at h
    · next a c ha hc => cases h; rw [asI64_eq ha, asI64_eq hc]; exact ⟨_, _, rfl, rfl, rfl, rfl, by show ((_ : Int) == _) = _; rw [Bool.eq_iff_iff]; simp⟩
    · cases h
  · split at h
    · next a c ha hc => cases h; rw [asB_eq ha, asB_eq hc]; exact ⟨_, _, rfl, rfl, trivial, trivial, rfl⟩
    · cases h
  · split at h
    · next a c ha hc => cases h; rw [asS_eq ha, asS_eq hc]; exact ⟨_, _, rfl, rfl, trivial, trivial, by unfold eqCell; exact beqS _ _⟩
    · cases h
  · cases h
theorem eqE_ok : ∀ {ks : List CK} {xs ys : List EV} {b : Bool}, eqE ks xs ys = some b → ∃ us vs, valsA (avL xs) = some us ∧ valsA (avL ys) = some vs ∧ okL ks us ∧ okL ks vs ∧ eqCells us vs = b
  | [], [], [], b, h => by cases h; exact ⟨[], [], rfl, rfl, trivial, trivial, rfl⟩
  | k :: ks, x :: xs, y :: ys, b, h => by
    unfold eqE at h
    split at h
    · next b1 hb1 =>
      obtain ⟨u, v, k1, k2, k3, k4, k5⟩ := eqF_ok hb1
      split at h
      · split at h
        · cases h
          refine ⟨[u], [v], by simp [avL, valsA, k1], by simp [avL, valsA, k2], ⟨k3, trivial⟩, ⟨k4, trivial⟩, ?_⟩
          simp [eqCells, k5]
        · cases h
      · split at h
        · next c hc =>
          cases h
          obtain ⟨us, vs, l1, l2, l3, l4, l5⟩ := eqE_ok hc
          refine ⟨u :: us, v :: vs, by simp [avL, valsA, k1, l1], by simp [avL, valsA, k2, l2], ⟨k3, l3⟩, ⟨k4, l4⟩, ?_⟩
          simp [eqCells, k5, l5]
        · cases h
    · cases h
  | [], _ :: _, _, _, h => by cases h
  | [], [], _ :: _, _, h => by cases h
  | _ :: _, [], _, _, h => by cases h
  | _ :: _, _ :: _, [], _, h => by cases h

section
variable {P : Program} {E : Env} {kp : List Nat} {n : Nat} {ops : Array Oper} {st : AS} {d : Nat} {ty : TypeId} {ps : String} {af : Array Edge}
variable {T T' : TypeId} {x y : Operand}
theorem Step.cast {o : Oper} {st st' st'' : AS} (h : Step P E kp n ops o st st') (e : st' = st'') : Step P E kp n ops o st st'' := e ▸ h
theorem put_eq {st : AS} {d : Nat} {x y : AV} (e : x = y) : st.put d x = st.put d y := by rw [e]
theorem arF_ok {op : BinOp} {wr : Bool} {r : Int} {C : List Prop} {z : EV} (h : arF wr r = some (C, z)) (hC : ∀ c ∈ C, c) (k : ∀ q, IntKind.i64.wrap r = q → Step P E kp n ops ⟨some d, .binOp op T x y T', ty, ps, af, none⟩ st (st.put d (.p (.v (.int .i64 q))))) :
    Step P E kp n ops ⟨some d, .binOp op T x y T', ty, ps, af, none⟩ st (st.put d z.av) := by
  unfold arF at h
  cases wr with
  | true => cases h; exact k _ rfl
  | false =>
    cases h
    have := hC (-9223372036854775808 ≤ r ∧ r ≤ 9223372036854775807) (by simp)
    exact k _ (w64 this.1 this.2)
theorem intF_ok {op : BinOp} {wr : Bool} {i j : Int} {C : List Prop} {z : EV} (h : intF wr i j op = some (C, z)) (hC : ∀ c ∈ C, c) (hd : Nat.blt d n = true)
    (hx : Gv (st.ev x) (.p (.v (.int .i64 i)))) (hy : Gv (st.ev y) (.p (.v (.int .i64 j)))) : Step P E kp n ops ⟨some d, .binOp op T x y T', ty, ps, af, none⟩ st (st.put d z.av) := by
  unfold intF at h
  split at h
  case h_1 => cases h; exact S_lt hx hy hd
  case h_2 => cases h; exact S_le hx hy hd
  case h_3 => cases h; exact S_gt hx hy hd
  case h_4 => cases h; exact S_ge hx hy hd
  case h_5 => cases h; exact S_eq hx hy hd
  case h_6 => cases h; exact S_ne hx hy hd
  case h_7 => exact arF_ok h hC fun q e => S_addk hx hy hd e
  case h_8 => exact arF_ok h hC fun q e => S_subk hx hy hd e
  case h_9 => exact arF_ok h hC fun q e => S_mulk hx hy hd e
  case h_10 =>
    cases h
    have h1 := hC (0 ≤ i ∧ 0 < j) (by simp)
    have h2 := hC (i ≤ 9223372036854775807) (by simp)
    refine S_quok hx hy hd (by omega) ?_
    rw [Int.tdiv_eq_ediv_of_nonneg h1.1]
    have h3 : 0 ≤ i / j := Int.ediv_nonneg h1.1 (by omega)
    have h4 : i / j ≤ i := Int.ediv_le_self _ h1.1
    exact w64 (by omega) (by omega)
  case h_11 =>
    cases h
    have h1 := hC (0 ≤ i ∧ 0 < j) (by simp)
    exact S_remk hx hy hd (by omega) (Int.tmod_eq_emod_of_nonneg h1.1)
  case h_12 => cases h; exact S_ork hx hy hd rfl
  case h_13 => cases h; exact S_andk hx hy hd rfl
  case h_14 => cases h; exact S_xork hx hy hd rfl
  case h_15 => cases h
theorem u8F_ok {op : BinOp} {i j : UInt8} {z : EV} (h : u8F i j op = some z) (hd : Nat.blt d n = true)
    (hx : Gv (st.ev x) (.p (b8P i))) (hy : Gv (st.ev y) (.p (b8P j))) : Step P E kp n ops ⟨some d, .binOp op T x y T', ty, ps, af, none⟩ st (st.put d z.av) := by
  unfold u8F at h
  have e : ∀ a b : Prop, ∀ [Decidable a] [Decidable b], (a ↔ b) → (AV.p (.v (.bool (decide a)))) = .p (.v (.bool (decide b))) := fun a b _ _ h => by
    simp only [h]
  split at h
  case h_1 => cases h; exact (S_lt hx hy hd).cast (put_eq (e _ _ (by omega)))
  case h_2 => cases h; exact (S_le hx hy hd).cast (put_eq (e _ _ (by omega)))
  case h_3 => cases h; exact (S_gt hx hy hd).cast (put_eq (e _ _ (by omega)))
  case h_4 => cases h; exact (S_ge hx hy hd).cast (put_eq (e _ _ (by omega)))
  case h_5 => cases h; exact (S_eq hx hy hd).cast (put_eq (e _ _ ⟨fun q => UInt8.toNat_inj.1 (by omega), fun q => by rw [q]⟩))
  case h_6 =>
    cases h
    have e2 : decide ((i.toNat : Int) = (j.toNat : Int)) = decide (i = j) := by
      rw [decide_eq_decide]; exact ⟨fun q => UInt8.toNat_inj.1 (by omega), fun q => by rw [q]⟩
    exact (S_ne hx hy hd).cast (put_eq (by rw [e2]; rfl))
  case h_7 => cases h; exact S_addk hx hy hd (u8add _ _)
  case h_8 => cases h; exact S_subk hx hy hd (u8sub _ _)
  case h_9 => cases h; exact S_andk hx hy hd (u8and _ _)
  case h_10 => cases h; exact S_ork hx hy hd (u8or _ _)
  case h_11 => cases h; exact S_xork hx hy hd (u8xor _ _)
  case h_12 => cases h
theorem u32F_ok {op : BinOp} {i j : UInt32} {z : EV} (h : u32F i j op = some z) (hd : Nat.blt d n = true)
    (hx : Gv (st.ev x) (.p (u32P i))) (hy : Gv (st.ev y) (.p (u32P j))) : Step P E kp n ops ⟨some d, .binOp op T x y T', ty, ps, af, none⟩ st (st.put d z.av) := by
  unfold u32F at h
  have e : ∀ a b : Prop, ∀ [Decidable a] [Decidable b], (a ↔ b) → (AV.p (.v (.bool (decide a)))) = .p (.v (.bool (decide b))) := fun a b _ _ h => by
    simp only [h]
  split at h
  case h_1 => cases h; exact (S_lt hx hy hd).cast (put_eq (e _ _ (by omega)))
  case h_2 => cases h; exact (S_le hx hy hd).cast (put_eq (e _ _ (by omega)))
  case h_3 => cases h; exact (S_gt hx hy hd).cast (put_eq (e _ _ (by omega)))
  case h_4 => cases h; exact (S_ge hx hy hd).cast (put_eq (e _ _ (by omega)))
  case h_5 => cases h; exact (S_eq hx hy hd).cast (put_eq (e _ _ ⟨fun q => UInt32.toNat_inj.1 (by omega), fun q => by rw [q]⟩))
  case h_6 =>
    cases h
    have e2 : decide ((i.toNat : Int) = (j.toNat : Int)) = decide (i = j) := by
      rw [decide_eq_decide]; exact ⟨fun q => UInt32.toNat_inj.1 (by omega), fun q => by rw [q]⟩
    exact (S_ne hx hy hd).cast (put_eq (by rw [e2]; rfl))
  case h_7 => cases h; exact S_addk hx hy hd (u32add _ _)
  case h_8 => cases h; exact S_subk hx hy hd (u32sub _ _)
  case h_9 => cases h; exact S_andk hx hy hd (u32and _ _)
  case h_10 => cases h; exact S_ork hx hy hd (u32or _ _)
  case h_11 => cases h; exact S_xork hx hy hd (u32xor _ _)
  case h_12 => cases h; exact S_andNotk hx hy hd (u32andNot _ _)
  case h_13 => cases h
theorem u64F_ok {op : BinOp} {i j : UInt64} {z : EV} (h : u64F i j op = some z) (hd : Nat.blt d n = true)
    (hx : Gv (st.ev x) (.p (u64P i))) (hy : Gv (st.ev y) (.p (u64P j))) : Step P E kp n ops ⟨some d, .binOp op T x y T', ty, ps, af, none⟩ st (st.put d z.av) := by
  unfold u64F at h
  cases h
theorem strF_ok {op : BinOp} {l m : List UInt8} {C : List Prop} {z : EV} (h : strF l m op = some (C, z)) (hC : ∀ c ∈ C, c) (hd : Nat.blt d n = true)
    (hx : Gv (st.ev x) (.p (strP l))) (hy : Gv (st.ev y) (.p (strP m))) : Step P E kp n ops ⟨some d, .binOp op T x y T', ty, ps, af, none⟩ st (st.put d z.av) := by
  unfold strF at h
  split at h
  case h_1 => cases h; exact S_strAdd hx hy (hC _ (by simp)) hd
  case h_2 => cases h; exact S_strEq hx hy hd
  case h_3 => cases h; exact S_strNe hx hy hd
  case h_4 => cases h; exact S_strLt hx hy hd
  case h_5 => cases h; exact S_strLe hx hy hd
  case h_6 => cases h; exact S_strGt hx hy hd
  case h_7 => cases h; exact S_strGe hx hy hd
  case h_8 => cases h
theorem boolF_ok {op : BinOp} {g q : Bool} {z : EV} (h : boolF g q op = some z) (hu : P.underlying T = some .bool) (hd : Nat.blt d n = true)
    (hx : Gv (st.ev x) (.p (boolP g))) (hy : Gv (st.ev y) (.p (boolP q))) : Step P E kp n ops ⟨some d, .binOp op T x y T', ty, ps, af, none⟩ st (st.put d z.av) := by
  have hr : ∀ w, (Op.equal T (.bool g) (.bool q)).run P w = .ok (g == q) w := fun w => by
    unfold Op.equal Op.maxDepth
    exact run_equalIn_bool w 9999 T g q hu
  unfold boolF at h
  split at h
  · cases h
    refine S_bin hx hy hd fun w => ?_
    simp [eqGuard, binOp, hr]
  · cases h
    refine S_bin hx hy hd fun w => ?_
    simp [eqGuard, binOp, hr]
  · cases h
theorem shl_mod (c n : Nat) : (UInt32.ofNat (c <<< n)).toNat = c * 2 ^ n % 4294967296 := by
  rw [UInt32.toNat_ofNat', Nat.shiftLeft_eq]
theorem shF_ok {op : BinOp} {u v : EV} {C : List Prop} {z : EV} (h : shF op u v = some (C, z)) (hC : ∀ c ∈ C, c) (hd : Nat.blt d n = true)
    (hx : Gv (st.ev x) u.av) (hy : Gv (st.ev y) v.av) : Step P E kp n ops ⟨some d, .binOp op T x y T', ty, ps, af, none⟩ st (st.put d z.av) := by
  unfold shF at h
  cases hv : asInt v with
  | none => rw [hv] at h; cases h
  | some p =>
    obtain ⟨k, j⟩ := p
    rw [hv] at h
    simp only at h
    have hy' : Gv (st.ev y) (.p (.v (.int k j))) := fun w Pub φ q hq => asInt_gv hv _ _ _ _ (hy _ _ _ _ hq)
    cases hu : asU32 u with
    | some c =>
      rw [hu] at h
      simp only at h
      have hx' : Gv (st.ev x) (.p (u32P c)) := fun w Pub φ q hq => asU32_gv hu _ _ _ _ (hx _ _ _ _ hq)
      split at h
      · cases h
        have h1 := hC _ (List.mem_singleton.2 rfl)
        obtain ⟨m, rfl⟩ := Int.eq_ofNat_of_zero_le h1.1
        have hm : m ≤ 32 := by omega
        refine S_shlk hx' hy' hd (decide_eq_false (by omega)) rfl ?_
        rw [IntKind.wrap_u32]
        show _ = (((UInt32.ofNat (c.toNat <<< m)).toNat : Nat) : Int)
        rw [shl_mod]
        have e : (min ((m : Int)).toNat (IntKind.u32.bits)) = m := by show min m 32 = m; omega
        rw [e]; simp
      · cases h
        have h1 := hC _ (List.mem_singleton.2 rfl)
        obtain ⟨m, rfl⟩ := Int.eq_ofNat_of_zero_le h1.1
        have hm : m ≤ 32 := by omega
        refine (S_shrk hx' hy' hd (decide_eq_false (by omega)) rfl).cast (put_eq ?_)
        have e : (min ((m : Int)).toNat (IntKind.u32.bits)) = m := by show min m 32 = m; omega
        rw [e]
        show AV.p (.v (.int .u32 _)) = AV.p (.v (.int .u32 ((UInt32.ofNat (c.toNat >>> m)).toNat : Int)))
        have e2 : (UInt32.ofNat (c.toNat >>> m)).toNat = c.toNat / 2 ^ m := by
          have := c.toNat_lt
          have h3 : c.toNat / 2 ^ m ≤ c.toNat := Nat.div_le_self _ _
          rw [UInt32.toNat_ofNat', Nat.shiftRight_eq_div_pow]
          exact Nat.mod_eq_of_lt (by omega)
        rw [e2]; simp
      · cases h
    | none =>
      rw [hu] at h
      simp only at h
      cases hi : asI64 u with
      | none =>
        rw [hi] at h
        simp only at h
        cases h6 : asU64 u with
        | none => rw [h6] at h; cases h
        | some c =>
          rw [h6] at h
          simp only at h
          have hx' : Gv (st.ev x) (.p (u64P c)) := fun w Pub φ q hq => asU64_gv h6 _ _ _ _ (hx _ _ _ _ hq)
          split at h
          · cases h
            have h1 := hC _ (List.mem_singleton.2 rfl)
            obtain ⟨m, rfl⟩ := Int.eq_ofNat_of_zero_le h1
            refine S_shlk hx' hy' hd (decide_eq_false (by omega)) rfl ?_
            rw [IntKind.wrap_u64]
            show _ = (((UInt64.ofNat (c.toNat * 2 ^ min ((m : Int)).toNat 64)).toNat : Nat) : Int)
            rw [UInt64.toNat_ofNat']
            have e : (min ((m : Int)).toNat (IntKind.u64.bits)) = min ((m : Int)).toNat 64 := rfl
            rw [e]; simp
          · cases h
            have h1 := hC _ (List.mem_singleton.2 rfl)
            obtain ⟨m, rfl⟩ := Int.eq_ofNat_of_zero_le h1
            refine (S_shrk hx' hy' hd (decide_eq_false (by omega)) rfl).cast (put_eq ?_)
            have e : (min ((m : Int)).toNat (IntKind.u64.bits)) = min ((m : Int)).toNat 64 := rfl
            rw [e]
            show AV.p (.v (.int .u64 _)) = AV.p (.v (.int .u64 ((UInt64.ofNat (c.toNat / 2 ^ min ((m : Int)).toNat 64)).toNat : Int)))
            have e2 : (UInt64.ofNat (c.toNat / 2 ^ min ((m : Int)).toNat 64)).toNat = c.toNat / 2 ^ min ((m : Int)).toNat 64 := by
              have := c.toNat_lt
              have h3 : c.toNat / 2 ^ min ((m : Int)).toNat 64 ≤ c.toNat := Nat.div_le_self _ _
              rw [UInt64.toNat_ofNat']
              exact Nat.mod_eq_of_lt (by omega)
            rw [e2]; simp
          · cases h
      | some i =>
        rw [hi] at h
        simp only at h
        have e := asI64_eq hi; subst e
        split at h
        · cases h
          have h1 := hC _ (List.mem_singleton.2 rfl)
          obtain ⟨m, rfl⟩ := Int.eq_ofNat_of_zero_le h1.1
          have hm : m ≤ 63 := by omega
          refine (S_shrk hx hy' hd (decide_eq_false (by omega)) rfl).cast (put_eq ?_)
          have e : (min ((m : Int)).toNat (IntKind.i64.bits)) = m := by show min m 64 = m; omega
          rw [e]; rfl
        · cases h
          have h1 := hC _ (List.mem_singleton.2 rfl)
          obtain ⟨m, rfl⟩ := Int.eq_ofNat_of_zero_le h1.1
          have hm : m ≤ 63 := by omega
          refine (S_shlk hx hy' hd (decide_eq_false (by omega)) rfl rfl).cast (put_eq ?_)
          have e : (min ((m : Int)).toNat (IntKind.i64.bits)) = m := by show min m 64 = m; omega
          rw [e]; rfl
        · cases h
theorem Gv.trans {x y z : AV} (h : Gv x y) (k : Gv y z) : Gv x z := fun w Pub φ u hu => k _ _ _ _ (h _ _ _ _ hu)
theorem binF_ok {op : BinOp} {wr : Bool} {u v : EV} {C : List Prop} {z : EV} (h : binF wr op u v = some (C, z)) (hC : ∀ c ∈ C, c) (hd : Nat.blt d n = true)
    (hx : Gv (st.ev x) u.av) (hy : Gv (st.ev y) v.av) : Step P E kp n ops ⟨some d, .binOp op T x y T', ty, ps, af, none⟩ st (st.put d z.av) := by
  unfold binF at h
  split at h
  · exact shF_ok h hC hd hx hy
  · exact shF_ok h hC hd hx hy
  · split at h
    · next i j h1 h2 =>
      have e1 := asI64_eq h1; have e2 := asI64_eq h2; subst e1 e2
      exact intF_ok h hC hd hx hy
    · split at h
      · next i j h1 h2 =>
        cases hz : u8F i j op with
        | none => rw [hz] at h; cases h
        | some z' => rw [hz] at h; cases h; exact u8F_ok hz hd (hx.trans (asU8_gv h1)) (hy.trans (asU8_gv h2))
      · split at h
        · next i j h1 h2 =>
          cases hz : u32F i j op with
          | none => rw [hz] at h; cases h
          | some z' => rw [hz] at h; cases h; exact u32F_ok hz hd (hx.trans (asU32_gv h1)) (hy.trans (asU32_gv h2))
        · split at h
          · next i j h1 h2 =>
            have e1 := asS_eq h1; have e2 := asS_eq h2; subst e1 e2
            exact strF_ok h hC hd hx hy
          · split at h
            · next i j h1 h2 =>
              cases hz : u64F i j op with
              | none => rw [hz] at h; cases h
              | some z' => rw [hz] at h; cases h; exact u64F_ok hz hd (hx.trans (asU64_gv h1)) (hy.trans (asU64_gv h2))
            · cases h
theorem convF_ok {k' : IntKind} {u z : EV} {dd : TypeDesc} (h : convF k' u = some z) (h1 : P.underlying T = some dd) (h2 : P.underlying T' = some (.int k')) (hd : Nat.blt d n = true) (hx : Gv (st.ev x) u.av) :
    Step P E kp n ops ⟨some d, .convert T T' x, ty, ps, af, none⟩ st (st.put d z.av) := by
  have go : ∀ {k : IntKind} {i r : Int}, Gv u.av (.p (.v (.int k i))) → k'.wrap i = r → z.av = .p (.v (.int k' r)) → Step P E kp n ops ⟨some d, .convert T T' x, ty, ps, af, none⟩ st (st.put d z.av) := fun hg hr hz => by
    rw [hz]; exact S_convInt (hx.trans hg) h1 h2 hr hd
  have w64' : ∀ i : Int, IntKind.u64.wrap i = (((UInt64.ofNat (i % 18446744073709551616).toNat).toNat : Nat) : Int) := fun i => by
    rw [IntKind.wrap_u64, UInt64.toNat_ofNat']; omega
  have w32 : ∀ i : Int, IntKind.u32.wrap i = (((UInt32.ofNat (i % 4294967296).toNat).toNat : Nat) : Int) := fun i => by
    rw [IntKind.wrap_u32, UInt32.toNat_ofNat']; omega
  unfold convF at h
  split at h
  · split at h
    · next c => cases h; exact go (k := .u32) (i := (c.toNat : Int)) Gv.r (by
        rw [u8w]; unfold u8of
        have : UInt8.ofNat ((c.toNat : Int) % 256).toNat = UInt8.ofNat c.toNat := UInt8.toNat_inj.1 (by rw [UInt8.toNat_ofNat', UInt8.toNat_ofNat']; omega)
        rw [this]) rfl
    · next c => cases h; exact go (k := .u64) (i := (c.toNat : Int)) Gv.r (by
        rw [u8w]; unfold u8of
        have : UInt8.ofNat ((c.toNat : Int) % 256).toNat = UInt8.ofNat c.toNat := UInt8.toNat_inj.1 (by rw [UInt8.toNat_ofNat', UInt8.toNat_ofNat']; omega)
        rw [this]) rfl
    · next c => cases h; exact go (k := .u8) (i := (c.toNat : Int)) Gv.r (by rw [u8w, u8of_id]) rfl
    · next i => cases h; exact go Gv.r (u8w i) rfl
    · cases h
  · split at h
    · next c => cases h; exact go (k := .u8) (i := (c.toNat : Int)) Gv.r (by
        have := c.toNat_lt
        rw [IntKind.wrap_u32, UInt32.toNat_ofNat']; omega) rfl
    · next c => cases h; exact go (k := .u32) (i := (c.toNat : Int)) Gv.r (u32id c) rfl
    · next c => cases h; exact go (k := .u64) (i := (c.toNat : Int)) Gv.r (by
        rw [IntKind.wrap_u32, UInt32.toNat_ofNat']; omega) rfl
    · next i => cases h; exact go Gv.r (w32 i) rfl
    · cases h
  · split at h
    · next c => cases h; exact go (k := .u8) (i := (c.toNat : Int)) Gv.r (by
        have := c.toNat_lt
        rw [IntKind.wrap_u64, UInt64.toNat_ofNat']; omega) rfl
    · next c => cases h; exact go (k := .u32) (i := (c.toNat : Int)) Gv.r (by
        have := c.toNat_lt
        rw [IntKind.wrap_u64, UInt64.toNat_ofNat']; omega) rfl
    · next c => cases h; exact go (k := .u64) (i := (c.toNat : Int)) Gv.r (u64id c) rfl
    · next i => cases h; exact go Gv.r (w64' i) rfl
    · cases h
  · split at h
    · next c => cases h; exact go (k := .u8) (i := (c.toNat : Int)) Gv.r (u8i c) rfl
    · next c => cases h; exact go (k := .u32) (i := (c.toNat : Int)) Gv.r (by have := c.toNat_lt; exact w64 (by omega) (by omega)) rfl
    · next c => cases h; exact go (k := .u64) (i := (c.toNat : Int)) Gv.r rfl rfl
    · next i => cases h; exact go Gv.r rfl rfl
    · next i => cases h; exact go Gv.r rfl rfl
    · cases h
  · split at h
    · next c => cases h; exact go (k := .u8) (i := (c.toNat : Int)) Gv.r rfl rfl
    · next c => cases h; exact go (k := .u32) (i := (c.toNat : Int)) Gv.r rfl rfl
    · next i => cases h; exact go Gv.r rfl rfl
    · cases h
/-- A word turned over. -/
theorem notF_ok {u z : EV} (h : notF u = some z) (hd : Nat.blt d n = true) (hx : Gv (st.ev x) u.av) : Step P E kp n ops ⟨some d, .unOp .xor T x, ty, ps, af, none⟩ st (st.put d z.av) := by
  unfold notF at h
  split at h
  · next c hc =>
    cases h
    refine S_inv (hx.trans (asU32_gv hc)) ?_ hd
    show IntKind.u32.wrap ((BitVec.ofInt 32 4294967295 ^^^ BitVec.ofInt 32 (c.toNat : Int)).toNat : Int) = ((~~~c).toNat : Int)
    have e : (BitVec.ofInt 32 4294967295 ^^^ BitVec.ofInt 32 (c.toNat : Int)) = (~~~c).toBitVec := by
      rw [bv32, UInt32.toBitVec_not]
      show BitVec.allOnes 32 ^^^ _ = _
      rw [BitVec.allOnes_xor]
    rw [e]; exact u32id _
  · split at h
    · next c hc =>
      cases h
      refine S_inv (hx.trans (asU64_gv hc)) ?_ hd
      show IntKind.u64.wrap ((BitVec.ofInt 64 18446744073709551615 ^^^ BitVec.ofInt 64 (c.toNat : Int)).toNat : Int) = ((~~~c).toNat : Int)
      have e : (BitVec.ofInt 64 18446744073709551615 ^^^ BitVec.ofInt 64 (c.toNat : Int)) = (~~~c).toBitVec := by
        rw [bv64, UInt64.toBitVec_not]
        show BitVec.allOnes 64 ^^^ _ = _
        rw [BitVec.allOnes_xor]
      rw [e]; exact u64id _
    · cases h
end
end Go.Proofs.YtcebndkiagbddaaGreatDoor

/- What is computed of loads, stores and places in memory is so. It names no function of the program. -/
namespace Go.Proofs.YtcebndkiagbddaaGreatDoor
open Go.RowKit
set_option linter.unusedVariables false
set_option linter.unusedSimpArgs false

theorem dpE_eq : ∀ (n : Nat) (l : List EV), dpE n l = l.drop n
  | 0, l => by simp [dpE]
  | n + 1, [] => by simp [dpE]
  | n + 1, x :: l => by simp [dpE, dpE_eq n l]
theorem tkE_eq : ∀ {n : Nat} {l m : List EV}, tkE n l = some m → m = l.take n ∧ m.length = n
  | 0, l, m, h => by unfold tkE at h; cases h; simp
  | n + 1, [], m, h => by unfold tkE at h; cases h
  | n + 1, x :: l, m, h => by
    unfold tkE at h
    cases hq : tkE n l with
    | none => rw [hq] at h; cases h
    | some q => rw [hq] at h; cases h; obtain ⟨h1, h2⟩ := tkE_eq hq; simp [← h1, h2]
theorem nthE_eq : ∀ (n : Nat) (l : List EV), nthE n l = l[n]?
  | n, [] => by simp [nthE]
  | 0, x :: l => by simp [nthE]
  | n + 1, x :: l => by simp [nthE, nthE_eq n l]
theorem ptE_eq : ∀ {o : Nat} {l xs m : List EV}, ptE o l xs = some m → m = putL l o xs ∧ o + xs.length ≤ max l.length o
  | o, l, [], m, h => by
    have : m = l := by cases o <;> cases l <;> simp [ptE] at h <;> simp [h]
    subst this; simp [putL]; omega
  | o, [], x :: xs, m, h => by cases o <;> simp [ptE] at h
  | 0, y :: l, x :: xs, m, h => by
    unfold ptE at h
    cases hq : ptE 0 l xs with
    | none => rw [hq] at h; cases h
    | some q =>
      rw [hq] at h; cases h
      obtain ⟨h1, h2⟩ := ptE_eq hq
      have e : ∀ (xs : List EV) (o : Nat) (a : EV) (l : List EV), putL (a :: l) (o + 1) xs = a :: putL l o xs := by
        intro xs
        induction xs with
        | nil => intro o a l; rfl
        | cons z xs ih => intro o a l; show putL ((a :: l).set (o + 1) z) (o + 1 + 1) xs = a :: putL (l.set o z) (o + 1) xs; rw [List.set_cons_succ, ih]
      refine ⟨?_, by simp at h2 ⊢; omega⟩
      show _ = putL ((y :: l).set 0 x) (0 + 1) xs
      rw [List.set_cons_zero, e, h1]
  | o + 1, y :: l, x :: xs, m, h => by
    unfold ptE at h
    cases hq : ptE o l (x :: xs) with
    | none => rw [hq] at h; cases h
    | some q =>
      rw [hq] at h; cases h
      obtain ⟨h1, h2⟩ := ptE_eq hq
      have e : ∀ (xs : List EV) (o : Nat) (a : EV) (l : List EV), putL (a :: l) (o + 1) xs = a :: putL l o xs := by
        intro xs
        induction xs with
        | nil => intro o a l; rfl
        | cons z xs ih => intro o a l; show putL ((a :: l).set (o + 1) z) (o + 1 + 1) xs = a :: putL (l.set o z) (o + 1) xs; rw [List.set_cons_succ, ih]
      exact ⟨by rw [e, h1], by simp at h2 ⊢; omega⟩
theorem avL_drop (n : Nat) (l : List EV) : avL (l.drop n) = (avL l).drop n := by rw [avL_map, avL_map, List.map_drop]
theorem avL_take (n : Nat) (l : List EV) : avL (l.take n) = (avL l).take n := by rw [avL_map, avL_map, List.map_take]
theorem avL_length (l : List EV) : (avL l).length = l.length := by rw [avL_map, List.length_map]
theorem pvL_drop (n : Nat) (l : List EV) : pvL (l.drop n) = (pvL l).drop n := by rw [pvL_map, pvL_map, List.map_drop]
theorem pvL_take (n : Nat) (l : List EV) : pvL (l.take n) = (pvL l).take n := by rw [pvL_map, pvL_map, List.map_take]
theorem pvL_length (l : List EV) : (pvL l).length = l.length := by rw [pvL_map, List.length_map]
theorem avL_get (l : List EV) (n : Nat) : (avL l)[n]? = (l[n]?).map EV.av := by rw [avL_map, List.getElem?_map]
theorem pvL_get (l : List EV) (n : Nat) : (pvL l)[n]? = (l[n]?).map EV.pv := by rw [pvL_map, List.getElem?_map]
theorem putL_mapf {α β : Type} (f : α → β) : ∀ (xs : List α) (o : Nat) (l : List α), (putL l o xs).map f = putL (l.map f) o (xs.map f)
  | [], o, l => rfl
  | x :: xs, o, l => by
    show (putL (l.set o x) (o + 1) xs).map f = putL ((l.map f).set o (f x)) (o + 1) (xs.map f)
    rw [putL_mapf f xs, List.map_set]
theorem avL_put (xs : List EV) (o : Nat) (l : List EV) : avL (putL l o xs) = putL (avL l) o (avL xs) := by rw [avL_map, avL_map, avL_map, putL_mapf]
theorem pvL_put (xs : List EV) (o : Nat) (l : List EV) : pvL (putL l o xs) = putL (pvL l) o (pvL xs) := by rw [pvL_map, pvL_map, pvL_map, putL_mapf]
theorem avL_append (l m : List EV) : avL (l ++ m) = avL l ++ avL m := by simp [avL_map]
theorem pvL_append (l m : List EV) : pvL (l ++ m) = pvL l ++ pvL m := by simp [pvL_map]

theorem one_av (x : EV) (h : oneE x = true) : x.av.one = true := by
  cases x with
  | rp t => cases t <;> rfl
  | _ => simp [oneE] at h <;> simp [EV.av, EV.pv, AV.one, h, bytesP] <;> rfl
theorem ones_av : ∀ (l : List EV), onesE l = true → allOne (avL l) = true
  | [], _ => rfl
  | x :: xs, h => by
    simp only [onesE, Bool.and_eq_true] at h
    simp only [avL, allOne, Bool.and_eq_true]
    exact ⟨one_av x h.1, ones_av xs h.2⟩
/-- A value's cells are those of the one without addresses, where they are fit for memory. -/
theorem cs_av (x : EV) (h : onesE (csE x) = true) : ∃ y, Gv x.av y ∧ y.cs = avL (csE x) := by
  cases x with
  | agg l => exact ⟨.agg (avL l), Gv.r, rfl⟩
  | tup l => simp [csE, onesE, oneE] at h
  | raw x => simp [csE, onesE, oneE] at h
  | cnd g x => simp [csE, onesE, oneE] at h
  | any => simp [csE, onesE, oneE] at h
  | az n f => simp [csE, onesE, oneE] at h
  | v u =>
    refine ⟨_, Gv.r, ?_⟩
    simp [csE, EV.av, AV.cs, avL]
  | rp t => cases t <;> exact ⟨_, Gv.r, rfl⟩
  | _ => exact ⟨_, Gv.r, rfl⟩
section
variable {P : Program} {E : Env} {kp : List Nat} {n : Nat} {ops : Array Oper} {d : Nat} {ty : TypeId} {ps : String} {af : Array Edge}

theorem Step.wk {o : Oper} {st st' st'' : AS} (h : Step P E kp n ops o st st') (k : Wk E kp n st' st'') : Step P E kp n ops o st st'' := fun a w K Q hs hK => h a w K Q hs fun a' w' hs' => hK a' w' (k a' w' hs')
theorem Step.pre {o : Oper} {st st' st'' : AS} (k : Wk E kp n st st') (h : Step P E kp n ops o st' st'') : Step P E kp n ops o st st'' := fun a w K Q hs hK => h a w K Q (k a w hs) hK
theorem wk_put {st : AS} {d : Nat} {x y : AV} (h : Gv x y) : Wk E kp n (st.put d x) (st.put d y) := by
  rintro a w ⟨φ, Pub, I, h0, hn, hsl⟩
  refine ⟨φ, Pub, I, h0, hn, fun q => ?_⟩
  have k := hsl q
  simp only [AS.put, look_cons] at k ⊢
  split
  · next e => rw [if_pos e] at k; exact h _ _ _ _ k
  · next e => rw [if_neg e] at k; exact k
theorem Step.gv {o : Oper} {st st' : AS} {d : Nat} {x y : AV} (h : Step P E kp n ops o st (st'.put d x)) (k : Gv x y) : Step P E kp n ops o st (st'.put d y) := h.wk (wk_put k)

/-- What is seen of a state: some slots, some blocks. -/
structure Sub (vs : List (Nat × EV)) (bs : List (Nat × EB)) (st : ES) : Prop where
  e : ∀ x, evOf vs x = .any ∨ st.ev x = evOf vs x
  b : ∀ r, ob_ bs r = .dead ∨ st.eb r = ob_ bs r
theorem Sub.v {vs : List (Nat × EV)} {bs : List (Nat × EB)} {st : ES} (S : Sub vs bs st) (x : Operand) : Gv (st.as.ev x) (evOf vs x).av := by
  rw [as_ev]
  rcases S.e x with k | k
  · rw [k]; exact Gv.any
  · rw [k]; exact Gv.r
theorem Sub.eq {vs : List (Nat × EV)} {bs : List (Nat × EB)} {st : ES} (S : Sub vs bs st) {x : Operand} (h : evOf vs x ≠ .any) : st.as.ev x = (evOf vs x).av := by
  rw [as_ev]
  rcases S.e x with k | k
  · exact absurd k h
  · rw [k]
theorem Sub.ob {vs : List (Nat × EV)} {bs : List (Nat × EB)} {st : ES} (S : Sub vs bs st) {r : Nat} {eb : EB} (h : ob_ bs r = eb) (hne : eb ≠ .dead) : st.as.ob r = eb.ob := by
  rw [as_ob]
  rcases S.b r with k | k
  · rw [h] at k; exact absurd k hne
  · rw [k, h]
def RS.app (R : RS) (st : ES) : ES := ⟨R.sl ++ st.slots, R.hp ++ st.heap⟩

variable {tab : TT} {vs : List (Nat × EV)} {bs : List (Nat × EB)} {st : ES}

theorem getE_box {ti : TI} {T : TypeId} {x : Operand} {r off : Nat} {cells : List EV} {t : TypeId} {C : List Prop} {y : EV} (hT : TIok P T ti) (h : getE ti true off cells = some (C, y)) (hd : Nat.blt d n = true) {st : AS}
    (hx : Gv (st.ev x) (.own r off)) (hl : st.ob r = .box (avL cells) t) : Step P E kp n ops ⟨some d, .load T x, ty, ps, af, none⟩ st (st.put d y.av) := by
  unfold getE at h
  cases ha : ti.agg with
  | true =>
    rw [ha] at h
    simp only [cond_true] at h
    split at h
    · next l hq =>
      simp only [Bool.true_or, cond_true] at h; cases h
      obtain ⟨h1, h2⟩ := tkE_eq hq
      rw [dpE_eq] at h1
      exact S_loadBoxN hd hx (by rw [hT.agg, ha]) hT.sz hl (by rw [h1, avL_take, avL_drop]) (by rw [avL_length]; exact h2)
    · cases h
  | false =>
    rw [ha] at h
    simp only [cond_false] at h
    split at h
    · next z hq =>
      simp only [Bool.true_or, cond_true] at h; cases h
      rw [nthE_eq] at hq
      exact S_loadBox hd hx (by rw [hT.agg, ha]) hl (by rw [avL_get, hq]; rfl)
    · cases h
theorem getE_row {ti : TI} {T : TypeId} {x : Operand} {r off sz pub : Nat} {cells : List EV} {t : TypeId} {C : List Prop} {y : EV} (hT : TIok P T ti) (h : getE ti false off cells = some (C, y)) (hd : Nat.blt d n = true) {st : AS}
    (hx : Gv (st.ev x) (.own r off)) (hl : st.ob r = .row (pvL cells) t sz pub) : Step P E kp n ops ⟨some d, .load T x, ty, ps, af, none⟩ st (st.put d y.av) := by
  unfold getE at h
  cases ha : ti.agg with
  | true =>
    rw [ha] at h
    simp only [cond_true] at h
    split at h
    · next l hq =>
      cases hs : shL l with
      | false => rw [hs] at h; cases h
      | true =>
        rw [hs] at h; cases h
        obtain ⟨h1, h2⟩ := tkE_eq hq
        rw [dpE_eq] at h1
        exact (S_loadRowN hd hx (by rw [hT.agg, ha]) hT.sz hl (l := pvL l) (by rw [h1, pvL_take, pvL_drop]) (by rw [pvL_length]; exact h2)).gv (Gv.sh' (x := .agg l) hs)
    · cases h
  | false =>
    rw [ha] at h
    simp only [cond_false] at h
    split at h
    · next z hq =>
      cases hs : z.sh with
      | false => rw [hs] at h; cases h
      | true =>
        rw [hs] at h; cases h
        rw [nthE_eq] at hq
        exact (S_loadRow hd hx (by rw [hT.agg, ha]) hl (v := y.pv) (by rw [pvL_get, hq]; rfl)).gv (Gv.sh' hs)
    · cases h
theorem getE_pp {ti : TI} {T : TypeId} {x : Operand} {off : Nat} {cells : List EV} {C : List Prop} {y : EV} (hT : TIok P T ti) (h : getE ti false off cells = some (C, y)) (hd : Nat.blt d n = true) {st : AS}
    (hx : Gv (st.ev x) (.p (.pp (pvL cells) off))) : Step P E kp n ops ⟨some d, .load T x, ty, ps, af, none⟩ st (st.put d y.av) := by
  unfold getE at h
  cases ha : ti.agg with
  | true =>
    rw [ha] at h
    simp only [cond_true] at h
    split at h
    · next l hq =>
      cases hs : shL l with
      | false => rw [hs] at h; cases h
      | true =>
        rw [hs] at h; cases h
        obtain ⟨h1, h2⟩ := tkE_eq hq
        rw [dpE_eq] at h1
        exact (S_loadPpN hd hx (by rw [hT.agg, ha]) hT.sz (l := pvL l) (by rw [h1, pvL_take, pvL_drop]) (by rw [pvL_length]; exact h2)).gv (Gv.sh' (x := .agg l) hs)
    · cases h
  | false =>
    rw [ha] at h
    simp only [cond_false] at h
    split at h
    · next z hq =>
      cases hs : z.sh with
      | false => rw [hs] at h; cases h
      | true =>
        rw [hs] at h; cases h
        rw [nthE_eq] at hq
        exact (S_loadPp hd hx (by rw [hT.agg, ha]) (v := y.pv) (by rw [pvL_get, hq]; rfl)).gv (Gv.sh' hs)
    · cases h
abbrev lzC (n sz : Nat) (f : Nat → Nat → EV) : List PV := (List.range n).flatMap fun i => (List.range sz).map fun j => (f i j).pv
theorem lzE_len (f : Nat → Nat → EV) (i : Nat) : ∀ k j, (lzE f i k j).length = k
  | 0, _ => rfl
  | k + 1, j => by simp [lzE, lzE_len f i k]
theorem lzE_get (f : Nat → Nat → EV) (i : Nat) : ∀ k j q, q < k → (lzE f i k j)[q]? = some (f i (j + q))
  | 0, _, _, h => by omega
  | k + 1, j, 0, _ => by simp [lzE]
  | k + 1, j, q + 1, h => by
    simp only [lzE, List.getElem?_cons_succ]
    rw [lzE_get f i k (j + 1) q (by omega), show j + 1 + q = j + (q + 1) from by omega]
theorem lzC_cut {m sz : Nat} {f : Nat → Nat → EV} {i off s : Nat} (hi : i < m) (ho : off + s ≤ sz) : ((lzC m sz f).drop (i * sz + off)).take s = pvL (lzE f i s off) := by
  apply List.ext_getElem?
  intro q
  rw [List.getElem?_take]
  by_cases h : q < s
  · rw [if_pos h, List.getElem?_drop, show i * sz + off + q = i * sz + (off + q) from by omega, lz_get m sz f hi (by omega), pvL_get, lzE_get f i s off q h]; rfl
  · rw [if_neg h, List.getElem?_eq_none (by rw [pvL_length, lzE_len]; omega)]
theorem getZ_pp {ti : TI} {T : TypeId} {x : Operand} {m sz i off : Nat} {f : Nat → Nat → EV} {C : List Prop} {y : EV} (hT : TIok P T ti) (h : getZ ti m sz f i off = some (C, y)) (hC : ∀ c ∈ C, c) (hd : Nat.blt d n = true) {st : AS}
    (hx : Gv (st.ev x) (.p (.pp (lzC m sz f) (i * sz + off)))) : Step P E kp n ops ⟨some d, .load T x, ty, ps, af, none⟩ st (st.put d y.av) := by
  unfold getZ at h
  cases hc : Nat.ble (off + ti.sz) sz && Nat.ble 1 ti.sz with
  | false => rw [hc] at h; cases h
  | true =>
    rw [hc] at h
    simp only [cond_true] at h
    simp only [Bool.and_eq_true, Nat.ble_eq] at hc
    cases ha : ti.agg with
    | true =>
      rw [ha] at h
      simp only [cond_true] at h
      cases hs : shL (lzE f i ti.sz off) with
      | false => rw [hs] at h; cases h
      | true =>
        rw [hs] at h; cases h
        have hi := hC (i < m) (by simp)
        exact (S_loadPpN hd hx (by rw [hT.agg, ha]) hT.sz (l := pvL (lzE f i ti.sz off)) (lzC_cut hi hc.1) (by rw [pvL_length, lzE_len])).gv (Gv.sh' (x := .agg _) hs)
    | false =>
      rw [ha] at h
      simp only [cond_false] at h
      cases hs : (f i off).sh with
      | false => rw [hs] at h; cases h
      | true =>
        rw [hs] at h; cases h
        have hi := hC (i < m) (by simp)
        exact (S_loadPp hd hx (by rw [hT.agg, ha]) (v := (f i off).pv) (lz_get m sz f hi (by omega))).gv (Gv.sh' hs)
theorem getZ_row {ti : TI} {T : TypeId} {x : Operand} {r m sz z pub i off : Nat} {t : TypeId} {f : Nat → Nat → EV} {C : List Prop} {y : EV} (hT : TIok P T ti) (h : getZ ti m sz f i off = some (C, y)) (hC : ∀ c ∈ C, c) (hd : Nat.blt d n = true) {st : AS}
    (hx : Gv (st.ev x) (.own r (i * sz + off))) (hl : st.ob r = .row (lzC m sz f) t z pub) : Step P E kp n ops ⟨some d, .load T x, ty, ps, af, none⟩ st (st.put d y.av) := by
  unfold getZ at h
  cases hc : Nat.ble (off + ti.sz) sz && Nat.ble 1 ti.sz with
  | false => rw [hc] at h; cases h
  | true =>
    rw [hc] at h
    simp only [cond_true] at h
    simp only [Bool.and_eq_true, Nat.ble_eq] at hc
    cases ha : ti.agg with
    | true =>
      rw [ha] at h
      simp only [cond_true] at h
      cases hs : shL (lzE f i ti.sz off) with
      | false => rw [hs] at h; cases h
      | true =>
        rw [hs] at h; cases h
        have hi := hC (i < m) (by simp)
        exact (S_loadRowN hd hx (by rw [hT.agg, ha]) hT.sz hl (l := pvL (lzE f i ti.sz off)) (lzC_cut hi hc.1) (by rw [pvL_length, lzE_len])).gv (Gv.sh' (x := .agg _) hs)
    | false =>
      rw [ha] at h
      simp only [cond_false] at h
      cases hs : (f i off).sh with
      | false => rw [hs] at h; cases h
      | true =>
        rw [hs] at h; cases h
        have hi := hC (i < m) (by simp)
        exact (S_loadRow hd hx (by rw [hT.agg, ha]) hl (v := (f i off).pv) (lz_get m sz f hi (by omega))).gv (Gv.sh' hs)
abbrev azC (n : Nat) (f : Nat → EV) : List PV := (List.range n).map fun i => (f i).pv
theorem azC_get {m i : Nat} {f : Nat → EV} (h : i < m) : (azC m f)[i]? = some (f i).pv := by simp [azC, h]
theorem fl_get {α : Type} (n sz : Nat) (F : Nat → Nat → α) {i j : Nat} (hi : i < n) (hj : j < sz) : ((List.range n).flatMap fun i => (List.range sz).map fun j => F i j)[i * sz + j]? = some (F i j) := by
  induction n with
  | zero => omega
  | succ n ih =>
    rw [List.range_succ, List.flatMap_append]
    have hl : ((List.range n).flatMap fun i => (List.range sz).map fun j => F i j).length = n * sz := by
      clear ih hi
      induction n with
      | zero => simp
      | succ n ih => rw [List.range_succ, List.flatMap_append, List.length_append, ih]; simp [Nat.succ_mul]
    by_cases h : i < n
    · rw [List.getElem?_append_left (by rw [hl]; calc i * sz + j < i * sz + sz := by omega
                                                  _ = (i + 1) * sz := by rw [Nat.succ_mul]
                                                  _ ≤ n * sz := Nat.mul_le_mul_right _ h)]
      exact ih h
    · obtain rfl : i = n := by omega
      rw [List.getElem?_append_right (by rw [hl]; omega), hl]
      simp [show i * sz + j - i * sz = j from by omega, hj]
theorem fl_len {α : Type} (n sz : Nat) (F : Nat → Nat → α) : ((List.range n).flatMap fun i => (List.range sz).map fun j => F i j).length = n * sz := by
  induction n with
  | zero => simp
  | succ n ih => rw [List.range_succ, List.flatMap_append, List.length_append, ih]; simp [Nat.succ_mul]
theorem flat_congr {α : Type} {n sz : Nat} {f g : Nat → Nat → α} (h : ∀ i, i < n → ∀ j, j < sz → f i j = g i j) : ((List.range n).flatMap fun i => (List.range sz).map fun j => f i j) = (List.range n).flatMap fun i => (List.range sz).map fun j => g i j := by
  rw [List.flatMap_def, List.flatMap_def]
  congr 1
  exact List.map_congr_left fun i hi => List.map_congr_left fun j hj => h i (List.mem_range.1 hi) j (List.mem_range.1 hj)
abbrev avC (n sz : Nat) (f : Nat → Nat → EV) : List AV := (List.range n).flatMap fun i => (List.range sz).map fun j => (f i j).av
theorem avC_cut {m sz : Nat} {f : Nat → Nat → EV} {i off s : Nat} (hi : i < m) (ho : off + s ≤ sz) : ((avC m sz f).drop (i * sz + off)).take s = avL (lzE f i s off) := by
  apply List.ext_getElem?
  intro q
  rw [List.getElem?_take, avL_map, List.getElem?_map]
  by_cases h : q < s
  · rw [if_pos h, List.getElem?_drop, show i * sz + off + q = i * sz + (off + q) from by omega, fl_get m sz (fun a b => (f a b).av) hi (by omega), lzE_get f i s off q h]; rfl
  · rw [if_neg h, List.getElem?_eq_none (by rw [lzE_len]; omega)]; rfl
theorem mp1_ok {ns : List Nat} {x y : EV} (h : mp1 ns x = some y) (w : World) (Pub : Nat → Nat → Prop) (φ : Ghost) (u : Value) (k : RA w Pub (loc φ ns) x.av u) : RA w Pub φ y.av u := by
  unfold mp1 at h
  split at h
  · next q m =>
    split at h
    · next r hr =>
      cases h
      unfold EV.av RA at k ⊢
      rw [loc_get hr] at k
      exact k
    · cases h
  · obtain ⟨hs, h⟩ := bif_some h
    cases h
    exact (av_pv _ u hs).2 ((av_pv _ u hs).1 k)
theorem mpL_ok {ns : List Nat} : ∀ {l l' : List EV}, mpL ns l = some l' → ∀ (w : World) (Pub : Nat → Nat → Prop) (φ : Ghost) (us : List Value), RAs w Pub (loc φ ns) (avL l) us → RAs w Pub φ (avL l') us
  | [], l', h, w, Pub, φ, us, k => by
    simp only [mpL] at h; cases h
    unfold avL RAs at k ⊢; exact k
  | x :: xs, l', h, w, Pub, φ, us, k => by
    simp only [mpL] at h
    split at h
    · next y hy =>
      split at h
      · next l hl =>
        cases h
        unfold avL RAs at k ⊢
        obtain ⟨u, vs, e, k1, k2⟩ := k
        exact ⟨u, vs, e, mp1_ok hy _ _ _ _ k1, mpL_ok hl _ _ _ _ k2⟩
      · cases h
    · cases h
theorem getA_ok {ti : TI} {T : TypeId} {x : Operand} {r m sz i off : Nat} {t : TypeId} {ns : List Nat} {f : Nat → Nat → EV} {C : List Prop} {y : EV} (hT : TIok P T ti) (h : getA ti m sz f ns i off = some (C, y)) (hC : ∀ c ∈ C, c) (hd : Nat.blt d n = true) {st : AS}
    (hx : Gv (st.ev x) (.own r (i * sz + off))) (hl : st.ob r = .ra (avC m sz f) t sz ns) : Step P E kp n ops ⟨some d, .load T x, ty, ps, af, none⟩ st (st.put d y.av) := by
  unfold getA at h
  obtain ⟨hc, h⟩ := bif_some h
  simp only [Bool.and_eq_true, Nat.ble_eq] at hc
  cases ha : ti.agg with
  | true =>
    rw [ha] at h
    simp only [cond_true] at h
    split at h
    · next l hs =>
      cases h
      have hi := hC (i < m) (by simp)
      exact S_loadRaN hd hx (by rw [hT.agg, ha]) hT.sz hl (l := avL (lzE f i ti.sz off)) (avC_cut hi hc.1) (by rw [avL_length, lzE_len]) (mpL_ok hs)
    · cases h
  | false =>
    rw [ha] at h
    simp only [cond_false] at h
    split at h
    · next y' hs =>
      cases h
      have hi := hC (i < m) (by simp)
      exact S_loadRa hd hx (by rw [hT.agg, ha]) hl (v := (f i off).av) (fl_get m sz (fun a b => (f a b).av) hi (by omega)) (mp1_ok hs)
    · cases h
theorem loadF_ok {T : TypeId} {x : Operand} {u y : EV} {C : List Prop} (hP : tab.ok P) (S : Sub vs bs st) (h : loadF tab bs T u = some (C, y)) (hC : ∀ c ∈ C, c) (hd : Nat.blt d n = true) (hx : Gv (st.as.ev x) u.av) :
    Step P E kp n ops ⟨some d, .load T x, ty, ps, af, none⟩ st.as (st.as.put d y.av) := by
  unfold loadF at h
  cases hti : tab.find T with
  | none => rw [hti] at h; cases h
  | some ti =>
    rw [hti] at h
    have hT := TT.find_ok hP hti
    simp only at h
    split at h
    · split at h
      · next hb => exact getE_box hT h hd hx (S.ob hb (by simp))
      · next hb => exact getE_row hT h hd hx (S.ob hb (by simp))
      · next m f t hb =>
        have hob : st.as.ob _ = .box ((azC m f).map AV.p) t := S.ob hb (by simp)
        cases ha : ti.agg with
        | true =>
          rw [ha] at h
          simp only [cond_true] at h
          obtain ⟨hc, h⟩ := bif_some h
          cases h
          simp only [Bool.and_eq_true] at hc
          have e1 := nat_eq hc.1; have e2 := nat_eq hc.2; subst e1
          refine (S_loadBoxN (l := (azC m f).map AV.p) hd hx (by rw [hT.agg, ha]) hT.sz hob ?_ ?_).gv Gv.agg
          · rw [e2, List.drop_zero, List.take_of_length_le (by simp)]
          · simp [e2]
        | false =>
          rw [ha] at h
          simp only [cond_false] at h
          obtain ⟨hs, h⟩ := bif_some h
          · cases h
            have hi := hC _ (List.mem_singleton.2 rfl)
            exact (S_loadBox hd hx (by rw [hT.agg, ha]) hob (v := .p (f _).pv) (by rw [List.getElem?_map, azC_get hi]; rfl)).gv (Gv.sh' hs)
      · cases h
    · next r s i off =>
      split at h
      · next l t pub hb =>
        cases ha : ti.agg with
        | true => rw [ha] at h; cases h
        | false =>
          rw [ha] at h
          simp only [cond_false] at h
          cases hc : Nat.beq s 1 && Nat.beq off 0 with
          | false => rw [hc] at h; cases h
          | true =>
            rw [hc] at h; cases h
            simp only [Bool.and_eq_true] at hc
            have e1 := nat_eq hc.1; have e2 := nat_eq hc.2; subst e1 e2
            have hi := hC (i < l.length) (by simp)
            refine S_loadByteR hd (off := i) ?_ (by rw [hT.agg, ha]) (S.ob hb (by simp)) hi
            simpa [EV.av] using hx
      · next hb =>
        cases hc : Nat.beq s _ with
        | false => rw [hc] at h; cases h
        | true =>
          rw [hc] at h
          simp only [cond_true] at h
          have e1 := nat_eq hc; subst e1
          exact getZ_row hT h hC hd hx (S.ob hb (by simp))
      · next hb => exact getE_row hT h hd hx (S.ob hb (by simp))
      · next hb =>
        obtain ⟨hc, h⟩ := bif_some h
        have e1 := nat_eq hc; subst e1
        exact getA_ok hT h hC hd hx (S.ob hb (by simp))
      · cases h
    · exact getE_pp hT h hd hx
    · next l i =>
      cases ha : ti.agg with
      | true => rw [ha] at h; cases h
      | false =>
        rw [ha] at h; cases h
        have hi := hC (i < l.length) (by simp)
        exact S_loadByte hd hx (by rw [hT.agg, ha]) hi
    · exact getZ_pp hT h hC hd hx
    · cases h
end
end Go.Proofs.YtcebndkiagbddaaGreatDoor

/- Parts of rows of the call's own: cut behind, cut ahead, wiped. They name no function of the program. -/
namespace Go.Proofs.YtcebndkiagbddaaGreatDoor
open Go.RowKit
set_option linter.unusedVariables false
set_option linter.unusedSimpArgs false

section
variable {P : Program} {E : Env} {kp : List Nat} {n : Nat} {ops : Array Oper} {st : AS} {d : Nat} {ty : TypeId} {ps : String} {af : Array Edge}
theorem S_cutLo {T e : TypeId} {s m r : Nat} {x lo : Operand} {k : IntKind} {i : Int} (hx : Gv (st.ev x) (.osl r m)) (hT : slOf P T = some (e, s)) (hlo : Gv (st.ev lo) (.p (.v (.int k i)))) (h0 : 0 ≤ i) (h1 : i ≤ m) (hd : Nat.blt d n = true) :
    Step P E kp n ops ⟨some d, .slice T x (some lo) none none, ty, ps, af, none⟩ st (st.put d (.oss r i.toNat (m - i.toNat) s)) :=
  S_pure _ rfl rfl hd fun a w φ Pub I hR => by
    have h := hx _ _ _ _ (hR x)
    unfold RA at h
    have hu := (sl_of hT).1
    have hel := sl_elem hT
    have hu' : P.underlying T = some (.slice (P.elem T)) := by rw [hel]; exact hu
    rcases h with ⟨b, c, e0, e1, e2⟩ | ⟨e0, e2, e1⟩
    · refine ⟨sliced (some ⟨b, 0, none⟩) i.toNat m c s, ?_, ?_⟩
      · simp only [execOp, e1, Option.map_some, Option.map_none, hlo.v (hR lo)]
        rw [Sem.run_bind, run_sliceAt_slice (w := w) T _ _ _ _ hu', run_slice_l (w := w) T (some ⟨b, 0, none⟩) m c hu' k i h0 h1, hel, run_sizeOf (sl_of hT).2]; rfl
      · unfold RA sliced
        by_cases hc : c = i.toNat
        · rw [if_pos hc]
          exact .inl ⟨b, c, 0, c - i.toNat, e0, rfl, fun q => by omega, by omega, by omega⟩
        · rw [if_neg hc]
          exact .inl ⟨b, c, 0 + i.toNat * s, c - i.toNat, e0, by simp [Addr.add_mid], fun q => Nat.zero_add _, by omega, by omega⟩
    · subst e2
      refine ⟨sliced none i.toNat 0 0 s, ?_, ?_⟩
      · simp only [execOp, e1, Option.map_some, Option.map_none, hlo.v (hR lo)]
        rw [Sem.run_bind, run_sliceAt_slice (w := w) T _ _ _ _ hu', run_slice_l (w := w) T none 0 0 hu' k i h0 h1, hel, run_sizeOf (sl_of hT).2]; rfl
      · unfold RA sliced
        have : i.toNat = 0 := by omega
        rw [this]
        exact .inr ⟨e0, rfl, rfl, rfl⟩
/-- Of a row less is known. -/
theorem wk_trunc (r k : Nat) {sz pub : Nat} {cells : List PV} {t : TypeId} (hl : st.ob r = .row cells t sz pub) (hp : pub ≤ (cells.take k).length) : Wk E kp n st ⟨st.slots, (r, .row (cells.take k) t sz pub) :: st.heap⟩ := by
  rintro a w ⟨φ, Pub, I, h0, hn, hsl⟩
  have hl' : look OB.dead st.heap r = .row cells t sz pub := hl
  have hlk : ∀ q, look OB.dead ((r, OB.row (cells.take k) t sz pub) :: st.heap) q = if r = q then .row (cells.take k) t sz pub else look OB.dead st.heap q := fun q => look_cons ..
  have hal : ∀ q, (look OB.dead ((r, OB.row (cells.take k) t sz pub) :: st.heap) q).alive = true → (look OB.dead st.heap q).alive = true := fun q hq => by
    rw [hlk] at hq
    split at hq
    · next e => subst e; rw [hl']; rfl
    · exact hq
  refine ⟨φ, Pub, I.next rfl rfl rfl (Nat.le_refl _) (fun _ _ _ => rfl) (Adv.refl _ _) (fun _ _ hp => .inl hp) I.publ (fun q hq => ?_) (fun q b c hq => I.mine q b c (hal q hq)) (fun q q' b c c' hq hq' => I.inj q q' b c c' (hal q hq) (hal q' hq')) (fun _ _ => rfl), h0, hn, hsl⟩
  rw [hlk]
  split
  · next e =>
    subst e
    have kk := I.own r
    rw [hl'] at kk
    rcases kk with ⟨k0, k1⟩ | ⟨b, c, cur, fr, k1, k2, k3, k4, k5, k6, k7, k8⟩
    · exact .inl ⟨k0, by rw [k1]; simp⟩
    · have hle : (cells.take k).length ≤ cells.length := by rw [List.length_take]; omega
      have htt : (cur.toList.take cells.length).take (cells.take k).length = cur.toList.take (cells.take k).length := by rw [List.take_take, Nat.min_eq_left hle]
      have e3 : cells.take k = cells.take (cells.take k).length := by
        rw [List.length_take]
        rcases Nat.le_total k cells.length with q | q
        · rw [Nat.min_eq_left q]
        · rw [Nat.min_eq_right q, List.take_of_length_le q, List.take_of_length_le (Nat.le_refl _)]
      refine .inr ⟨b, c, cur, fr, k1, k2, k3, k4, by omega, ?_, fun u hu => k7 u ?_, fun i hi => ?_⟩
      · have := RPs_take (cells.take k).length k6
        rw [htt] at this
        rw [← e3] at this; exact this
      · rw [← htt] at hu; exact List.mem_of_mem_take hu
      · have := k8 i hi; omega
  · exact I.own q
theorem RAs_setQ {w : World} {Pub : Nat → Nat → Prop} {φ : Ghost} {x' : AV} : ∀ (l : List AV) (vs : List Value) (i : Nat), RAs w Pub φ l vs → (∀ v, vs[i]? = some v → RA w Pub φ x' v) → RAs w Pub φ (l.set i x') vs
  | [], vs, i, h, _ => h
  | x :: l, vs, 0, h, hx => by
    unfold RAs at h
    obtain ⟨u, us, rfl, h1, h2⟩ := h
    show RAs w Pub φ (x' :: l) (u :: us)
    unfold RAs
    exact ⟨u, us, rfl, hx u rfl, h2⟩
  | x :: l, vs, i + 1, h, hx => by
    unfold RAs at h
    obtain ⟨u, us, rfl, h1, h2⟩ := h
    show RAs w Pub φ (x :: l.set i x') (u :: us)
    unfold RAs
    exact ⟨u, us, rfl, h1, RAs_setQ l us i h2 fun v hv => hx v hv⟩
theorem RAs_at {w : World} {Pub : Nat → Nat → Prop} {φ : Ghost} {x : AV} : ∀ (l : List AV) (vs : List Value) (i : Nat), RAs w Pub φ l vs → l[i]? = some x → ∃ v, vs[i]? = some v ∧ RA w Pub φ x v
  | [], vs, i, h, e => by cases e
  | y :: l, vs, 0, h, e => by
    unfold RAs at h
    obtain ⟨u, us, rfl, h1, h2⟩ := h
    cases e
    exact ⟨u, rfl, h1⟩
  | y :: l, vs, i + 1, h, e => by
    unfold RAs at h
    obtain ⟨u, us, rfl, h1, h2⟩ := h
    obtain ⟨v, k1, k2⟩ := RAs_at l us i h2 e
    exact ⟨v, k1, k2⟩
/-- A cell of a variable that holds the nil slice holds an empty row of the call's own. -/
theorem wk_nilB (r N i : Nat) {cells : List AV} {tB t : TypeId} {sz : Nat} {x : AV} (hl : st.ob r = .box cells tB) (hc : cells[i]? = some x) (hx : Gv x (.p (.v (.slice none 0 0)))) (hf : st.free kp N = true) (hne : N ≠ r) :
    Wk E kp n st ⟨st.slots, (r, .box (cells.set i (.osl N 0)) tB) :: (N, .row [] t sz 0) :: st.heap⟩ := by
  rintro a w ⟨φ, Pub, I, h0, hn, hsl⟩
  obtain ⟨f1, f2, f3, f4⟩ := free_split hf
  have I1 := I.nilRow f1 f2 f4 t sz 0
  have hl' : look OB.dead st.heap r = .box cells tB := hl
  have hlk : ∀ q, look OB.dead ((r, OB.box (cells.set i (.osl N 0)) tB) :: (N, OB.row [] t sz 0) :: st.heap) q = if r = q then .box (cells.set i (.osl N 0)) tB else look OB.dead ((N, OB.row [] t sz 0) :: st.heap) q := fun q => look_cons ..
  have hr : look OB.dead ((N, OB.row [] t sz 0) :: st.heap) r = .box cells tB := by rw [look_cons, if_neg hne]; exact hl'
  have hal : ∀ q, (look OB.dead ((r, OB.box (cells.set i (.osl N 0)) tB) :: (N, OB.row [] t sz 0) :: st.heap) q).alive = true → (look OB.dead ((N, OB.row [] t sz 0) :: st.heap) q).alive = true := fun q hq => by
    rw [hlk] at hq
    split at hq
    · next e => subst e; rw [hr]; rfl
    · exact hq
  refine ⟨_, Pub, I1.next rfl rfl rfl (Nat.le_refl _) (fun _ _ _ => rfl) (Adv.refl _ _) (fun _ _ hp => .inl hp) I1.publ (fun q hq => ?_) (fun q b c hq => I1.mine q b c (hal q hq)) (fun q q' b c c' hq hq' => I1.inj q q' b c c' (hal q hq) (hal q' hq')) (fun _ _ => rfl), h0, hn, fun q => RA_rename (Adv.refl _ _) (look_sHas f3) (hsl q)⟩
  rw [hlk]
  split
  · next e =>
    subst e
    have k := I1.own r
    rw [hr] at k
    obtain ⟨b, cur, k1, k2, k3, k4, k5⟩ := k
    refine ⟨b, cur, k1, k2, RAs_setQ _ _ _ k3 fun v hv => ?_, k4, k5⟩
    obtain ⟨v', e1, e2⟩ := RAs_at _ _ i k3 hc
    rw [hv] at e1; cases e1
    have := hx _ _ _ _ e2
    unfold RA RP at this
    unfold RA
    exact .inr ⟨if_pos rfl, rfl, this⟩
  · exact I1.own q
theorem S_cutHi {T e : TypeId} {s m r sz pub : Nat} {x hi : Operand} {k : IntKind} {j : Int} {cells : List PV} {t : TypeId} (hx : Gv (st.ev x) (.osl r m)) (hl : st.ob r = .row cells t sz pub) (hT : slOf P T = some (e, s)) (hhi : Gv (st.ev hi) (.p (.v (.int k j)))) (h0 : 0 ≤ j) (h1 : j ≤ m)
    (hp : pub ≤ (cells.take (j.toNat * s)).length) (hd : Nat.blt d n = true) :
    Step P E kp n ops ⟨some d, .slice T x none (some hi) none, ty, ps, af, none⟩ st ⟨(d, .osl r j.toNat) :: st.slots, (r, .row (cells.take (j.toNat * s)) t sz pub) :: st.heap⟩ := by
  refine Step.wk (st' := st.put d (.osl r j.toNat)) ?_ (wk_trunc (st := st.put d (.osl r j.toNat)) r (j.toNat * s) hl hp)
  exact S_pure _ rfl rfl hd fun a w φ Pub I hR => by
    have h := hx _ _ _ _ (hR x)
    unfold RA at h
    have hu := (sl_of hT).1
    have hel := sl_elem hT
    have hu' : P.underlying T = some (.slice (P.elem T)) := by rw [hel]; exact hu
    rcases h with ⟨b, c, e0, e1, e2⟩ | ⟨e0, e2, e1⟩
    · refine ⟨sliced (some ⟨b, 0, none⟩) 0 j.toNat c s, ?_, ?_⟩
      · simp only [execOp, e1, Option.map_some, Option.map_none, hhi.v (hR hi)]
        rw [Sem.run_bind, run_sliceAt_slice (w := w) T _ _ _ _ hu', run_slice_h (w := w) T (some ⟨b, 0, none⟩) m c hu' k j h0 (by omega), hel, run_sizeOf (sl_of hT).2]; rfl
      · unfold RA sliced
        refine .inl ⟨b, c, e0, ?_, by omega⟩
        by_cases hc : c = 0
        · rw [if_pos hc]; rfl
        · rw [if_neg hc]; simp [Addr.add_mid]
    · subst e2
      refine ⟨sliced none 0 j.toNat 0 s, ?_, ?_⟩
      · simp only [execOp, e1, Option.map_some, Option.map_none, hhi.v (hR hi)]
        rw [Sem.run_bind, run_sliceAt_slice (w := w) T _ _ _ _ hu', run_slice_h (w := w) T none 0 0 hu' k j h0 (by omega), hel, run_sizeOf (sl_of hT).2]; rfl
      · unfold RA sliced
        have : j.toNat = 0 := by omega
        rw [this]
        exact .inr ⟨e0, rfl, rfl⟩
theorem putL_nil {α : Type} (l : List α) (o : Nat) : putL l o [] = l := rfl
theorem zeroCells_eq (z : Array Value) (hz : 0 < z.size) (k : Nat) : (Builtin.zeroCells z k).toList = zerosV z.toList k := madeCells_eq z hz k
theorem S_clear {T e : TypeId} {x : Operand} {r i m s pub bytes : Nat} {cells : List PV} {t : TypeId} {z : List Value} (hx : Gv (st.ev x) (.oss r i m s)) (hl : st.ob r = .row cells t s pub) (hT : apOf P T = some (e, s, bytes, z)) (hs : 0 < s) (h1 : z.all (·.oneCell') = true)
    (hp : pub ≤ i * s) (hin : (i + m) * s ≤ cells.length) :
    Step P E kp n ops ⟨none, .call { callee := .builtin .clear, args := #[x], argTypes := #[T] }, ty, ps, af, none⟩ st (st.set r (.row (putL cells (i * s) (zerosP z m)) t s pub)) := by
  refine Step.val rfl fun a w ⟨φ, Pub, I, h0, hn, hsl⟩ => ?_
  obtain ⟨ii, v, t1, t2, t3, t4, t5, t6, t7⟩ := ap_of hT
  have hzl : z.length = s := by rw [← t7, Array.length_toList, t6]
  have h := hx _ _ _ _ (ev_R (h := st.heap) hsl x)
  have k := I.own r
  have hl' : look OB.dead st.heap r = .row cells t s pub := hl
  rw [hl'] at k
  have hzero : ∀ w, (zeroValue e).run P w = .ok v w := fun w => by simp [zeroValue, typeInfo, t2, t3]
  have hmul : (i + m) * s = i * s + m * s := Nat.add_mul ..
  by_cases hm0 : m = 0
  · subst hm0
    have e1 : ∃ ad c, a.eval x = .slice ad 0 c := by
      unfold RA at h
      rcases h with ⟨b, c, o, c', _, e1, _⟩ | ⟨_, _, _, e1⟩
      · exact ⟨_, _, e1⟩
      · exact ⟨_, _, e1⟩
    obtain ⟨ad, c, e1⟩ := e1
    have hput : putL cells (i * s) (zerosP z 0) = cells := by unfold zerosP; exact putL_nil _ _
    refine ⟨.tuple #[], w, ?_, ?_⟩
    · cases ad <;> simp [execOp, resolve, invoke, builtin, e1, Builtin.clear_, run_underlying t1, Result.andThen]
    · rw [hput]
      refine ⟨φ, Pub, ?_, h0, hn, fun q => hsl q⟩
      show Inv E kp φ Pub ((r, OB.row cells t s pub) :: st.heap) w
      refine I.sub fun q => ?_
      rw [look_cons]
      split
      · next e => subst e; exact .inl hl'.symm
      · exact .inl rfl
  unfold RA at h
  rcases h with ⟨b, c, o, c', e2, e1, e3, e4, e5⟩ | ⟨_, _, e3, _⟩
  · rcases k with ⟨k0, _⟩ | ⟨b', c2, cur, fr, k1, ⟨k2, k2'⟩, k3, k4, k5, k6, k7, k8⟩
    · rw [e2] at k0; cases k0
    rw [e2] at k1; cases k1
    have e3 := e3 hm0
    subst e3
    have hlz : (zerosV z m).length = m * s := by rw [zerosV_length, hzl]
    have hst := run_storeCells_cells (P := P) b (i * s) (zerosV z m) 0 w (fun j hj => by
      rw [Nat.add_zero, cell_of_row w b _ cur _ fr k2, Array.getElem?_eq_getElem (by omega)]; rfl) (fun j hj => by
      unfold World.frozen?; simp only [k2]
      rcases k2' with h0 | h0
      · subst h0; simp
      · simp; omega) (zerosV_one h1 m)
    simp only [Nat.add_zero] at hst
    obtain ⟨I', H⟩ := I.storeRow (o := i * s) hl' e2 (zerosV_R (w := w) (Pub := Pub) z m) (zerosV_one h1 m) hp (by rw [zerosP_length, hzl]; omega)
    refine ⟨.tuple #[], _, ?_, ⟨φ, Pub, I', h0, hn, fun q => RA_mono H _ _ (fun _ _ => rfl) (hsl q)⟩⟩
    have hzc := zeroCells_eq v.cells (by rw [t6]; exact hs) m
    rw [t7] at hzc
    obtain ⟨m', rfl⟩ : ∃ m', m = m' + 1 := ⟨m - 1, by omega⟩
    simp [execOp, resolve, invoke, builtin, e1, Builtin.clear_, run_underlying t1, hzero, hzc, hst, Result.andThen]
  · omega
end
end Go.Proofs.YtcebndkiagbddaaGreatDoor

/- What is computed of stores, places, parts of slices, new blocks and appends is so. It names no function of the program. -/
namespace Go.Proofs.YtcebndkiagbddaaGreatDoor
open Go.RowKit
set_option linter.unusedVariables false
set_option linter.unusedSimpArgs false

section
variable {P : Program} {E : Env} {kp : List Nat} {n : Nat} {ops : Array Oper} {d : Nat} {ty : TypeId} {ps : String} {af : Array Edge}
variable {tab : TT} {vs : List (Nat × EV)} {bs : List (Nat × EB)} {st : ES}

theorem toPs_pvL : ∀ (l : List EV), onesE l = true → shL l = true → AV.toPs (avL l) = some (pvL l)
  | [], _, _ => rfl
  | x :: xs, h, k => by
    simp only [onesE, shL, Bool.and_eq_true] at h k
    have e : x.av = .p x.pv := by
      cases x <;> simp [oneE] at h <;> simp [EV.sh] at k <;> simp [EV.av, EV.pv]
    simp only [avL, pvL, e, AV.toPs, toPs_pvL xs h.2 k.2, Option.map_some]
theorem av_pv1 {x : EV} (h : oneE x = true) (k : x.sh = true) : x.av = .p x.pv := by
  cases x <;> simp [oneE] at h <;> simp [EV.sh] at k <;> simp [EV.av, EV.pv]
theorem cs1 {x : EV} (h : oneE x = true) : x.av.cs = [x.av] := by
  cases x with
  | rp t => cases t <;> rfl
  | _ => simp [oneE] at h <;> simp [EV.av, EV.pv, AV.cs, bytesP]
theorem ones_azC {m : Nat} {g : Nat → EV} (h : ∀ i, i < m → oneE (g i) = true) (k : ∀ i, i < m → (g i).sh = true) : allOne ((azC m g).map AV.p) = true := by
  have key : ∀ (l : List Nat), (∀ i ∈ l, oneE (g i) = true ∧ (g i).sh = true) → allOne ((l.map fun i => (g i).pv).map AV.p) = true := by
    intro l
    induction l with
    | nil => intro _; rfl
    | cons a l ih =>
      intro hl
      obtain ⟨h1, h2⟩ := hl a (by simp)
      simp only [List.map_cons, allOne, Bool.and_eq_true]
      exact ⟨by rw [← av_pv1 h1 h2]; exact one_av _ h1, ih fun i hi => hl i (List.mem_cons_of_mem _ hi)⟩
  exact key _ fun i hi => ⟨h i (List.mem_range.1 hi), k i (List.mem_range.1 hi)⟩
theorem putL_whole {α : Type} {l m : List α} (h : m.length = l.length) : putL l 0 m = m := by
  rw [putL_copy m l (by omega), List.drop_of_length_le (by omega), List.append_nil]
theorem set_azC {m o : Nat} {f : Nat → EV} {y : EV} (h : o < m) : ((azC m f).map AV.p).set o (.p y.pv) = (azC m (fun a => bif Nat.beq a o then y else f a)).map AV.p := by
  apply List.ext_getElem?
  intro q
  rw [List.getElem?_set]
  by_cases e : o = q
  · subst e
    rw [if_pos rfl, List.getElem?_map, azC_get h, if_pos (by simpa using h)]
    simp
  · rw [if_neg e]
    simp only [azC, List.map_map, List.getElem?_map]
    by_cases hq : q < m
    · rw [List.getElem?_range hq]
      have : Nat.beq q o = false := by
        cases hb : Nat.beq q o with
        | false => rfl
        | true => exact absurd (nat_eq hb).symm e
      simp [this]
    · rw [List.getElem?_eq_none (by simp; omega)]; rfl
theorem lz_put {m s i off : Nat} {f : Nat → Nat → EV} {l : List EV} (hi : i < m) (hl : off + l.length ≤ s) (h1 : 1 ≤ l.length) : putL (lzC m s f) (i * s + off) (pvL l) = lzC m s (stZ f i off l) := by
  have hin : i * s + off + l.length ≤ m * s := by
    have : (i + 1) * s ≤ m * s := Nat.mul_le_mul_right _ hi
    rw [Nat.succ_mul] at this; omega
  apply List.ext_getElem?
  intro k
  by_cases hk : k < m * s
  · have hs : 0 < s := by omega
    have hb : k % s < s := Nat.mod_lt _ hs
    have ha : k / s < m := (Nat.div_lt_iff_lt_mul hs).2 hk
    have e : k / s * s + k % s = k := by rw [Nat.mul_comm]; exact Nat.div_add_mod k s
    have g1 := lz_get m s f ha hb
    have g2 := lz_get m s (stZ f i off l) ha hb
    rw [e] at g1 g2
    rw [g2]
    have key : ∀ (xs : List PV) (q : List PV) (o : Nat), o + xs.length ≤ q.length → (putL q o xs)[k]? = if o ≤ k ∧ k < o + xs.length then xs[k - o]? else q[k]? := by
      intro xs
      induction xs with
      | nil => intro q o _; rw [if_neg (by simp only [List.length_nil]; omega)]; rfl
      | cons x xs ih =>
        intro q o ho
        rw [List.length_cons] at ho
        show (putL (q.set o x) (o + 1) xs)[k]? = _
        rw [ih (q.set o x) (o + 1) (by rw [List.length_set]; omega), List.length_cons]
        by_cases h1 : o + 1 ≤ k ∧ k < o + 1 + xs.length
        · rw [if_pos h1, if_pos (by omega), show k - o = (k - (o + 1)) + 1 from by omega, List.getElem?_cons_succ]
        · rw [if_neg h1]
          by_cases h2 : k = o
          · subst h2; rw [if_pos (by omega), Nat.sub_self, List.getElem?_cons_zero, List.getElem?_set_self (by omega)]
          · rw [if_neg (by omega), List.getElem?_set_ne (by omega)]
    rw [key (pvL l) _ _ (by rw [lz_len, pvL_length]; exact hin), pvL_length]
    have hif : (i * s + off ≤ k ∧ k < i * s + off + l.length) ↔ (k / s = i ∧ off ≤ k % s ∧ k % s < off + l.length) := by
      constructor
      · rintro ⟨q1, q2⟩
        have d : k / s = i := by
          apply Nat.le_antisymm
          · exact Nat.le_of_lt_succ ((Nat.div_lt_iff_lt_mul hs).2 (by rw [Nat.succ_mul]; omega))
          · exact (Nat.le_div_iff_mul_le hs).2 (by omega)
        rw [d] at e
        exact ⟨d, by omega, by omega⟩
      · rintro ⟨d, q1, q2⟩
        rw [d] at e
        exact ⟨by omega, by omega⟩
    by_cases hq : i * s + off ≤ k ∧ k < i * s + off + l.length
    · rw [if_pos hq]
      obtain ⟨d, q1, q2⟩ := hif.1 hq
      have c : (Nat.beq (k / s) i && (Nat.ble off (k % s) && Nat.blt (k % s) (off + l.length))) = true := by
        simp [d, Nat.ble_eq, Nat.blt_eq, q1, q2]
      unfold stZ
      rw [c, cond_true]
      rw [d] at e
      rw [show k - (i * s + off) = k % s - off from by omega, pvL_get, List.getD_eq_getElem?_getD, List.getElem?_eq_getElem (by omega)]
      rfl
    · rw [if_neg hq, g1]
      have c : (Nat.beq (k / s) i && (Nat.ble off (k % s) && Nat.blt (k % s) (off + l.length))) = false := by
        cases hc : (Nat.beq (k / s) i && (Nat.ble off (k % s) && Nat.blt (k % s) (off + l.length))) with
        | false => rfl
        | true =>
          simp only [Bool.and_eq_true, Nat.ble_eq, Nat.blt_eq] at hc
          exact absurd (hif.2 ⟨Nat.eq_of_beq_eq_true hc.1, hc.2.1, hc.2.2⟩) hq
      unfold stZ
      rw [c, cond_false]
  · rw [List.getElem?_eq_none (by rw [putL_length, lz_len]; omega), List.getElem?_eq_none (by rw [lz_len]; omega)]
theorem pairs_imp {w : World} {Pub Pub' : Nat → Nat → Prop} {ψ ψ' : Ghost} {f g : Nat × Nat → EV} : ∀ (ps : List (Nat × Nat)) (us : List Value), (∀ p ∈ ps, ∀ u, RA w Pub ψ (f p).av u → RA w Pub' ψ' (g p).av u) → RAs w Pub ψ (ps.map fun p => (f p).av) us → RAs w Pub' ψ' (ps.map fun p => (g p).av) us
  | [], us, _, h => by simp only [List.map_nil] at h ⊢; unfold RAs at h ⊢; exact h
  | p :: ps, us, hp, h => by
    simp only [List.map_cons] at h ⊢
    unfold RAs at h ⊢
    obtain ⟨u, vs, e, k1, k2⟩ := h
    exact ⟨u, vs, e, hp p (by simp) u k1, pairs_imp ps vs (fun q hq => hp q (List.mem_cons_of_mem _ hq)) k2⟩
theorem avC_pairs (n sz : Nat) (f : Nat → Nat → EV) : avC n sz f = ((List.range n).flatMap fun i => (List.range sz).map fun j => (i, j)).map fun p => (f p.1 p.2).av := by
  rw [List.map_flatMap]; simp [avC, Function.comp_def]
theorem flat_imp {w : World} {Pub Pub' : Nat → Nat → Prop} {ψ ψ' : Ghost} {n sz : Nat} {f g : Nat → Nat → EV} {us : List Value} (h : ∀ i, i < n → ∀ j, j < sz → ∀ u, RA w Pub ψ (f i j).av u → RA w Pub' ψ' (g i j).av u) (k : RAs w Pub ψ (avC n sz f) us) : RAs w Pub' ψ' (avC n sz g) us := by
  rw [avC_pairs] at k ⊢
  refine pairs_imp (f := fun p => f p.1 p.2) (g := fun p => g p.1 p.2) _ _ (fun p hp u hu => ?_) k
  rw [List.mem_flatMap] at hp
  obtain ⟨i, hi, hp⟩ := hp
  rw [List.mem_map] at hp
  obtain ⟨j, hj, rfl⟩ := hp
  exact h i (List.mem_range.1 hi) j (List.mem_range.1 hj) u hu
theorem putL_get {α : Type} : ∀ (xs q : List α) (o k : Nat), o + xs.length ≤ q.length → (putL q o xs)[k]? = if o ≤ k ∧ k < o + xs.length then xs[k - o]? else q[k]?
  | [], q, o, k, _ => by rw [if_neg (by simp only [List.length_nil]; omega)]; rfl
  | x :: xs, q, o, k, ho => by
    rw [List.length_cons] at ho
    show (putL (q.set o x) (o + 1) xs)[k]? = _
    rw [putL_get xs (q.set o x) (o + 1) k (by rw [List.length_set]; omega), List.length_cons]
    by_cases h1 : o + 1 ≤ k ∧ k < o + 1 + xs.length
    · rw [if_pos h1, if_pos (by omega), show k - o = (k - (o + 1)) + 1 from by omega, List.getElem?_cons_succ]
    · rw [if_neg h1]
      by_cases h2 : k = o
      · subst h2; rw [if_pos (by omega), Nat.sub_self, List.getElem?_cons_zero, List.getElem?_set_self (by omega)]
      · rw [if_neg (by omega), List.getElem?_set_ne (by omega)]
theorem lz_putA {m s i off : Nat} {f : Nat → Nat → EV} {l : List EV} (hi : i < m) (h0 : off + l.length ≤ s) : putL (avC m s f) (i * s + off) (avL l) = avC m s (stZ f i off l) := by
  have hin : i * s + off + l.length ≤ m * s := by
    have : (i + 1) * s ≤ m * s := Nat.mul_le_mul_right _ hi
    rw [Nat.succ_mul] at this; omega
  apply List.ext_getElem?
  intro k
  rw [putL_get _ _ _ _ (by rw [fl_len, avL_length]; exact hin), avL_length]
  by_cases hk : k < m * s
  · have hs : 0 < s := by
      rcases Nat.eq_zero_or_pos s with e | e
      · subst e; simp at hk
      · exact e
    have hb : k % s < s := Nat.mod_lt _ hs
    have ha : k / s < m := (Nat.div_lt_iff_lt_mul hs).2 hk
    have e : k / s * s + k % s = k := by rw [Nat.mul_comm]; exact Nat.div_add_mod k s
    have g1 := fl_get m s (fun a b => (f a b).av) ha hb
    have g2 := fl_get m s (fun a b => (stZ f i off l a b).av) ha hb
    rw [e] at g1 g2
    rw [g2]
    have hif : (i * s + off ≤ k ∧ k < i * s + off + l.length) ↔ (k / s = i ∧ off ≤ k % s ∧ k % s < off + l.length) := by
      constructor
      · rintro ⟨q1, q2⟩
        have d : k / s = i := by
          apply Nat.le_antisymm
          · exact Nat.le_of_lt_succ ((Nat.div_lt_iff_lt_mul hs).2 (by rw [Nat.succ_mul]; omega))
          · exact (Nat.le_div_iff_mul_le hs).2 (by omega)
        rw [d] at e
        exact ⟨d, by omega, by omega⟩
      · rintro ⟨d, q1, q2⟩
        rw [d] at e
        exact ⟨by omega, by omega⟩
    by_cases hq : i * s + off ≤ k ∧ k < i * s + off + l.length
    · rw [if_pos hq]
      obtain ⟨d, q1, q2⟩ := hif.1 hq
      have c : (Nat.beq (k / s) i && (Nat.ble off (k % s) && Nat.blt (k % s) (off + l.length))) = true := by
        simp [d, Nat.ble_eq, Nat.blt_eq, q1, q2]
      unfold stZ
      rw [c, cond_true]
      rw [d] at e
      rw [show k - (i * s + off) = k % s - off from by omega, avL_map, List.getElem?_map, List.getD_eq_getElem?_getD, List.getElem?_eq_getElem (by omega)]
      rfl
    · rw [if_neg hq, g1]
      have c : (Nat.beq (k / s) i && (Nat.ble off (k % s) && Nat.blt (k % s) (off + l.length))) = false := by
        cases hc : (Nat.beq (k / s) i && (Nat.ble off (k % s) && Nat.blt (k % s) (off + l.length))) with
        | false => rfl
        | true =>
          simp only [Bool.and_eq_true, Nat.ble_eq, Nat.blt_eq] at hc
          exact absurd (hif.2 ⟨Nat.eq_of_beq_eq_true hc.1, hc.2.1, hc.2.2⟩) hq
      unfold stZ
      rw [c, cond_false]
  · rw [if_neg (by omega), List.getElem?_eq_none (by rw [fl_len]; omega), List.getElem?_eq_none (by rw [fl_len]; omega)]
theorem noL_ok {i q : Nat} {x : EV} {ns : List Nat} (h : noL i x) {w : World} {Pub : Nat → Nat → Prop} {φ : Ghost} {u : Value} (k : RA w Pub (loc φ ns) x.av u) : RA w Pub (loc φ (ns.set i q)) x.av u := by
  cases x
  case osl j m =>
    have hj : j ≠ i := h
    have e : loc φ (ns.set i q) j = loc φ ns j := by unfold loc; rw [List.getElem?_set_ne (Ne.symm hj)]
    unfold EV.av RA at k ⊢
    rw [e]; exact k
  all_goals exact (av_pv _ u h).2 ((av_pv _ u h).1 k)
theorem ra_put {w : World} {Pub : Nat → Nat → Prop} {ψ ψ' : Ghost} {n s i off : Nat} {f : Nat → Nat → EV} {l : List EV} {vs us : List Value} (hi : i < n) (ho : off + l.length ≤ s) (h1 : RAs w Pub ψ (avC n s f) vs)
    (h2 : ∀ a, a < n → ∀ b, b < s → (a = i ∧ off ≤ b ∧ b < off + l.length) ∨ ∀ u, RA w Pub ψ (f a b).av u → RA w Pub ψ' (f a b).av u) (h3 : RAs w Pub ψ' (avL l) us) : RAs w Pub ψ' (avC n s (stZ f i off l)) (putL vs (i * s + off) us) := by
  have h4 : RAs w Pub ψ' (avC n s (stZ f i off (l.map fun _ => .any))) vs := flat_imp (fun a ha b hb u k => by
    unfold stZ
    cases hc : (Nat.beq a i && (Nat.ble off b && Nat.blt b (off + (l.map fun _ => EV.any).length))) with
    | true =>
      rw [cond_true]
      have : (l.map fun _ => EV.any).getD (b - off) .any = .any := by
        rw [List.getD_eq_getElem?_getD, List.getElem?_map]
        cases l[b - off]? <;> rfl
      rw [this]; unfold EV.av RA; trivial
    | false =>
      rw [cond_false]
      rcases h2 a ha b hb with ⟨e1, e2, e3⟩ | h
      · exfalso
        rw [List.length_map] at hc
        have : (Nat.beq a i && (Nat.ble off b && Nat.blt b (off + l.length))) = true := by simp [e1, Nat.ble_eq, Nat.blt_eq, e2, e3]
        rw [this] at hc; cases hc
      · exact h u k) h1
  have h5 := RAs_putL (i * s + off) h4 h3
  rw [lz_putA hi ho] at h5
  have e : avC n s (stZ (stZ f i off (l.map fun _ => .any)) i off l) = avC n s (stZ f i off l) := flat_congr fun a _ b _ => by
    congr 1
    unfold stZ
    rw [List.length_map]
    cases (Nat.beq a i && (Nat.ble off b && Nat.blt b (off + l.length))) <;> rfl
  rw [e] at h5
  exact h5
theorem storeF_ok {T : TypeId} {x y : Operand} {u v : EV} {R : RS} (hP : tab.ok P) (S : Sub vs bs st) (h : storeF tab bs T u v = some R) (hC : ∀ c ∈ R.C, c) (hx : Gv (st.as.ev x) u.av) (hy : Gv (st.as.ev y) v.av) :
    Step P E kp n ops ⟨none, .store T x y, ty, ps, af, none⟩ st.as (R.app st).as := by
  unfold storeF at h
  cases hti : tab.find T with
  | none => rw [hti] at h; cases h
  | some ti =>
    rw [hti] at h
    have hT := TT.find_ok hP hti
    simp only at h
    split at h
    · next r off =>
      split at h
      · next m f t hb =>
        have hob : st.as.ob r = .box ((azC m f).map AV.p) t := S.ob hb (by simp)
        split at h
        · next m' g =>
          obtain ⟨hc, h⟩ := bif_some h
          cases h
          simp only [Bool.and_eq_true] at hc
          have e1 := nat_eq hc.1.1; have e2 := nat_eq hc.1.2; have e3 := nat_eq hc.2; subst e1 e3
          have ho := hC (∀ i, i < m' → oneE (g i) = true ∧ (g i).sh = true) (by simp)
          refine (S_storeBox (v := .agg ((azC m' g).map AV.p)) hx (hy.trans Gv.agg') hT.sz hob (by exact ones_azC (fun i hi => (ho i hi).1) (fun i hi => (ho i hi).2)) (by simp [AV.cs, e2]) (by simp [e2])).cast ?_
          show AS.mk _ ((r, OB.box (putL ((azC m' f).map AV.p) 0 ((azC m' g).map AV.p)) t) :: obs st.heap) = AS.mk _ ((r, OB.box ((azC m' g).map AV.p) t) :: obs st.heap)
          rw [putL_whole (by simp)]; rfl
        · next l =>
          obtain ⟨hc, h⟩ := bif_some h
          cases h
          simp only [Bool.and_eq_true] at hc
          have e1 := nat_eq hc.1.1.1; have e2 := nat_eq hc.1.1.2; have e3 := nat_eq hc.1.2; subst e1
          refine (S_storeBox (v := .agg (avL l)) hx hy hT.sz hob (by exact ones_av _ hc.2) (by simp [AV.cs, avL_length, e2, e3]) (by simp [e2])).cast ?_
          show AS.mk _ ((r, OB.box (putL ((azC m f).map AV.p) 0 (avL l)) t) :: obs st.heap) = AS.mk _ ((r, OB.box (avL l) t) :: obs st.heap)
          rw [putL_whole (by simp [avL_length, e3])]; rfl
        · obtain ⟨hc, h⟩ := bif_some h
          · cases h
            simp only [Bool.and_eq_true] at hc
            have e1 := nat_eq hc.1.1
            have hi := hC (off < m) (by simp)
            have ea := av_pv1 hc.1.2 hc.2
            refine (S_storeBox hx hy hT.sz hob (by rw [cs1 hc.1.2]; simp only [allOne, Bool.and_true]; exact one_av _ hc.1.2) (by rw [e1, cs1 hc.1.2]; rfl) (by simp; omega)).cast ?_
            rw [cs1 hc.1.2, ea]
            show AS.mk _ ((r, OB.box (((azC m f).map AV.p).set off (.p v.pv)) t) :: obs st.heap) = AS.mk _ ((r, OB.box ((azC m (fun a => bif Nat.beq a off then v else f a)).map AV.p) t) :: obs st.heap)
            rw [set_azC hi]; rfl
      · next cells t hb =>
       split at h
       · next m' g =>
         obtain ⟨hc, h⟩ := bif_some h
         cases h
         simp only [Bool.and_eq_true] at hc
         have e1 := nat_eq hc.1.1; have e2 := nat_eq hc.1.2; have e3 := nat_eq hc.2; subst e1
         have ho := hC (∀ i, i < m' → oneE (g i) = true ∧ (g i).sh = true) (by simp)
         refine (S_storeBox (v := .agg ((azC m' g).map AV.p)) hx (hy.trans Gv.agg') hT.sz (S.ob hb (by simp)) (by exact ones_azC (fun i hi => (ho i hi).1) (fun i hi => (ho i hi).2)) (by simp [AV.cs, e2]) (by rw [avL_length]; omega)).cast ?_
         show AS.mk _ ((r, OB.box (putL (avL cells) 0 ((azC m' g).map AV.p)) t) :: obs st.heap) = AS.mk _ ((r, OB.box ((azC m' g).map AV.p) t) :: obs st.heap)
         rw [putL_whole (by simp [avL_length, e3])]; rfl
       · cases hc : Nat.beq (csE v).length ti.sz && onesE (csE v) && Nat.ble (off + ti.sz) cells.length with
        | false => rw [hc] at h; cases h
        | true =>
          rw [hc] at h
          simp only [cond_true] at h
          simp only [Bool.and_eq_true, Nat.ble_eq] at hc
          split at h
          · next c hq =>
            cases h
            obtain ⟨h1, h2⟩ := ptE_eq hq
            obtain ⟨z, hz1, hz2⟩ := cs_av v hc.1.2
            have hlen := nat_eq hc.1.1
            refine (S_storeBox hx (hy.trans hz1) hT.sz (S.ob hb (by simp)) (by rw [hz2]; exact ones_av _ hc.1.2) (by rw [hz2, avL_length]; exact hlen) (by rw [avL_length]; exact hc.2)).cast ?_
            rw [hz2, h1]
            show AS.mk _ ((r, OB.box (putL (avL cells) off (avL (csE v))) t) :: obs st.heap) = AS.mk _ ((r, OB.box (avL (putL cells off (csE v))) t) :: obs st.heap)
            rw [avL_put]; rfl
          · cases h
      · cases h
    · next r s i off =>
      split at h
      · next l t pub hb =>
        cases hc : Nat.beq s 1 && Nat.beq off 0 && Nat.beq ti.sz 1 with
        | false => rw [hc] at h; cases h
        | true =>
          rw [hc] at h
          simp only [cond_true] at h
          simp only [Bool.and_eq_true] at hc
          have e1 := nat_eq hc.1.1; have e2 := nat_eq hc.1.2; have e3 := nat_eq hc.2; subst e1 e2
          split at h
          · next c hq =>
            cases h
            have hi := hC (i < l.length) (by simp)
            have hp := hC (pub ≤ i) (by simp)
            refine (S_storeRow (off := i) (s := 1) (qs := [b8P c]) (by simpa [EV.av] using hx) (hy.trans (asU8_gv hq)) (by rw [hT.sz, e3]) (S.ob hb (by simp)) (by rfl) rfl rfl hp (by simp; omega)).cast ?_
            show AS.mk _ ((r, OB.row (putL (l.map b8P) i [b8P c]) t 1 pub) :: obs st.heap) = AS.mk _ ((r, OB.row ((l.set i c).map b8P) t 1 pub) :: obs st.heap)
            rw [putL_map]; rfl
          · cases h
      · next cells t sz pub hb =>
        cases hc : Nat.beq (csE v).length ti.sz && onesE (csE v) && shL (csE v) && Nat.ble (i * s + off + ti.sz) cells.length with
        | false => rw [hc] at h; cases h
        | true =>
          rw [hc] at h
          simp only [cond_true] at h
          simp only [Bool.and_eq_true, Nat.ble_eq] at hc
          split at h
          · next c hq =>
            cases h
            obtain ⟨h1, h2⟩ := ptE_eq hq
            obtain ⟨z, hz1, hz2⟩ := cs_av v hc.1.1.2
            have hlen := nat_eq hc.1.1.1
            have hp := hC (pub ≤ i * s + off) (by simp)
            refine (S_storeRow (qs := pvL (csE v)) hx (hy.trans hz1) hT.sz (S.ob hb (by simp)) (by rw [hz2]; exact ones_av _ hc.1.1.2) (by rw [hz2]; exact toPs_pvL _ hc.1.1.2 hc.1.2) (by rw [pvL_length]; exact hlen) hp (by rw [pvL_length]; exact hc.2)).cast ?_
            rw [h1]
            show AS.mk _ ((r, OB.row (putL (pvL cells) (i * s + off) (pvL (csE v))) t sz pub) :: obs st.heap) = AS.mk _ ((r, OB.row (pvL (putL cells (i * s + off) (csE v))) t sz pub) :: obs st.heap)
            rw [pvL_put]; rfl
          · cases h
      · next m sz f t pub hb =>
        cases hc : Nat.beq s sz && Nat.beq (csE v).length ti.sz && onesE (csE v) && shL (csE v) && Nat.ble (off + ti.sz) sz && Nat.ble 1 ti.sz with
        | false => rw [hc] at h; cases h
        | true =>
          rw [hc] at h
          simp only [cond_true] at h
          cases h
          simp only [Bool.and_eq_true, Nat.ble_eq] at hc
          obtain ⟨⟨⟨⟨⟨c1, c2⟩, c3⟩, c4⟩, c5⟩, c6⟩ := hc
          have e1 := nat_eq c1; subst e1
          have hlen := nat_eq c2
          obtain ⟨z, hz1, hz2⟩ := cs_av v c3
          have hi := hC (i < m) (by simp)
          have hp := hC (pub ≤ i * s + off) (by simp)
          have hin : i * s + off + (csE v).length ≤ m * s := by
            have : (i + 1) * s ≤ m * s := Nat.mul_le_mul_right _ hi
            rw [Nat.succ_mul] at this; omega
          refine (S_storeRow (qs := pvL (csE v)) hx (hy.trans hz1) hT.sz (S.ob hb (by simp)) (by rw [hz2]; exact ones_av _ c3) (by rw [hz2]; exact toPs_pvL _ c3 c4) (by rw [pvL_length]; exact hlen) hp (by rw [lz_len]; omega)).cast ?_
          show AS.mk _ ((r, OB.row (putL (lzC m s f) (i * s + off) (pvL (csE v))) t s pub) :: obs st.heap) = AS.mk _ ((r, OB.row (lzC m s (stZ f i off (csE v))) t s pub) :: obs st.heap)
          rw [lz_put hi (by omega) (by omega)]; rfl
      · next m sz f t ns hb =>
        obtain ⟨hc, h⟩ := bif_some h
        simp only [Bool.and_eq_true, Nat.ble_eq] at hc
        obtain ⟨⟨c1, c5⟩, c6⟩ := hc
        have e1 := nat_eq c1; subst e1
        have hin : ∀ k, i < m → off + k ≤ s → i * s + off + k ≤ m * s := fun k hi hk => by
          have : (i + 1) * s ≤ m * s := Nat.mul_le_mul_right _ hi
          rw [Nat.succ_mul] at this; omega
        split at h
        · next q mm _ =>
          obtain ⟨hc2, h⟩ := bif_some h
          cases h
          simp only [Bool.and_eq_true, Nat.blt_eq] at hc2
          have e2 := nat_eq hc2.1
          have hi := hC (i < m) (by simp)
          have ho := hC (∀ a, a < m → ∀ b, b < s → (a = i ∧ b = off) ∨ noL i (f a b)) (by simp)
          refine (S_storeRa (cells := avC m s f) (cells' := avC m s (stZ f i off [.osl i mm])) (ns' := ns.set i q) hx hy hT.sz (S.ob hb (by simp)) rfl (by rw [e2]; rfl) (by rw [fl_len, fl_len]) (by rw [fl_len]; exact hin _ hi c5) fun w Pub φ vs us k1 k2 => ?_).cast rfl
          refine ra_put hi (by simp only [List.length_cons, List.length_nil]; omega) k1 (fun a ha b hb => ?_) ?_
          · rcases ho a ha b hb with ⟨e3, e4⟩ | h
            · exact .inl ⟨e3, by omega, by simp only [List.length_cons, List.length_nil]; omega⟩
            · exact .inr fun u k => noL_ok h k
          · have e3 : loc φ (ns.set i q) i = φ q := loc_get (by rw [List.getElem?_set_self (by omega)])
            simp only [avL, EV.av, AV.cs] at k2 ⊢
            unfold RAs at k2 ⊢
            obtain ⟨u, us', e, k3, k4⟩ := k2
            refine ⟨u, us', e, ?_, by unfold RAs at k4 ⊢; exact k4⟩
            unfold RA at k3 ⊢
            rw [e3]; exact k3
        · obtain ⟨hc2, h⟩ := bif_some h
          cases h
          simp only [Bool.and_eq_true] at hc2
          obtain ⟨⟨c2, c3⟩, c4⟩ := hc2
          have hlen := nat_eq c2
          have hi := hC (i < m) (by simp)
          obtain ⟨z, hz1, hz2⟩ := cs_av v c3
          refine (S_storeRa (cells := avC m s f) (cells' := avC m s (stZ f i off (csE v))) (ns' := ns) hx (hy.trans hz1) hT.sz (S.ob hb (by simp)) (by rw [hz2]; exact ones_av _ c3) (by rw [hz2, avL_length]; exact hlen) (by rw [fl_len, fl_len]) (by rw [fl_len]; exact hin _ hi c5) fun w Pub φ vs us k1 k2 => ?_).cast rfl
          refine ra_put hi (by omega) k1 (fun a ha b hb => .inr fun u k => k) ?_
          rw [hz2] at k2
          exact (avL_pvL _ _ c4).2 ((avL_pvL _ _ c4).1 k2)
      · cases h
    · cases h
theorem fldF_ok {T f : Nat} {x : Operand} {u y : EV} (hP : tab.ok P) (h : fldF tab T f u = some y) (hd : Nat.blt d n = true) {st : AS} (hx : Gv (st.ev x) u.av) :
    Step P E kp n ops ⟨some d, .fieldAddr T x f, ty, ps, af, none⟩ st (st.put d y.av) := by
  unfold fldF at h
  split at h
  · next pl _ _ _ _ hti =>
    have hT := (TT.find_ok hP hti).st pl rfl
    split at h
    · next o s _ hpl =>
      have hi : (pl.map fun p => (p.1, p.2.1))[f]? = some (o, s + 1) := by rw [List.getElem?_map, hpl]; rfl
      split at h
      · cases h; exact S_fieldOwn hx hT hi (by omega) hd
      · cases h; exact S_fieldPp hx hT hi (by omega) hd
      · next r s' i off =>
        cases h
        refine (S_fieldOwn hx hT hi (by omega) hd).cast (put_eq ?_)
        show AV.own r (i * s' + off + o) = AV.own r (i * s' + (off + o))
        rw [Nat.add_assoc]
      · next m s' g i off =>
        cases h
        refine (S_fieldPp (off := i * s' + off) hx hT hi (by omega) hd).cast (put_eq ?_)
        show AV.p (.pp _ (i * s' + off + o)) = AV.p (.pp _ (i * s' + (off + o)))
        rw [Nat.add_assoc]
      · cases h
    · cases h
  · cases h
theorem idxF_ok {T : TypeId} {x y : Operand} {u v z : EV} {C : List Prop} (hP : tab.ok P) (h : idxF tab T u v = some (C, z)) (hC : ∀ c ∈ C, c) (hd : Nat.blt d n = true) {st : AS} (hx : Gv (st.ev x) u.av) (hy : Gv (st.ev y) v.av) :
    Step P E kp n ops ⟨some d, .indexAddr T x y, ty, ps, af, none⟩ st (st.put d z.av) := by
  unfold idxF at h
  cases hv : asInt v with
  | none => rw [hv] at h; cases h
  | some p =>
    obtain ⟨k, i⟩ := p
    rw [hv] at h
    simp only at h
    have hy' := hy.trans (asInt_gv hv)
    split at h
    · next e s _ _ _ _ _ _ hti =>
      obtain ⟨_, hT, _⟩ := (TT.find_ok hP hti).sl e s _ _ rfl
      split at h
      · next l =>
        cases hc : Nat.beq s 1 with
        | false => rw [hc] at h; cases h
        | true =>
          rw [hc] at h; cases h
          have e1 := nat_eq hc; subst e1
          have hb := hC (0 ≤ i ∧ i < (l.length : Int)) (by simp)
          refine (S_indexSl hy' hd (cells := l.map b8P) (m := l.length) hx hT hb.1 hb.2).cast (put_eq ?_)
          rw [Nat.mul_one]; rfl
      · next m sz f =>
        cases hc : Nat.beq s sz with
        | false => rw [hc] at h; cases h
        | true =>
          rw [hc] at h; cases h
          have e1 := nat_eq hc; subst e1
          have hb := hC (0 ≤ i ∧ i < (m : Int)) (by simp)
          exact (S_indexSl hy' hd hx hT hb.1 hb.2).cast (put_eq (by simp [EV.av, EV.pv]))
      · next cells m =>
        cases h
        have hb := hC (0 ≤ i ∧ i < (m : Int)) (by simp)
        exact S_indexSl hy' hd hx hT hb.1 hb.2
      · next r m =>
        cases h
        have hb := hC (0 ≤ i ∧ i < (m : Int)) (by simp)
        exact (S_indexOsl (sz := 0) (pub := 0) (cells := []) (t := 0) hy' hd hx hT hb.1 hb.2).cast (put_eq (by simp [EV.av]))
      · cases h
    · next m s _ _ _ _ _ hti =>
      obtain ⟨hT, _, _⟩ := (TT.find_ok hP hti).ar m s _ rfl
      split at h
      · cases h
        have hb := hC (0 ≤ i ∧ i < (m : Int)) (by simp)
        exact S_indexArr hy' hd hx hT hb.1 hb.2
      · cases h
        have hb := hC (0 ≤ i ∧ i < (m : Int)) (by simp)
        exact S_indexArrPp hy' hd hx hT hb.1 hb.2
      · cases h
    · cases h
theorem atF_ok {T : TypeId} {x y : Operand} {u v z : EV} {C : List Prop} (hP : tab.ok P) (h : atF tab T u v = some (C, z)) (hC : ∀ c ∈ C, c) (hd : Nat.blt d n = true) {st : AS} (hx : Gv (st.ev x) u.av) (hy : Gv (st.ev y) v.av) :
    Step P E kp n ops ⟨some d, .index T x y, ty, ps, af, none⟩ st (st.put d z.av) := by
  unfold atF at h
  cases hv : asInt v with
  | none => rw [hv] at h; cases h
  | some p =>
    obtain ⟨k, i⟩ := p
    rw [hv] at h
    simp only at h
    have hy' := hy.trans (asInt_gv hv)
    split at h
    · next hti =>
      split at h
      · next l hl =>
        cases h
        have hb := hC (0 ≤ i ∧ i < (l.length : Int)) (by simp)
        have e := asS_eq hl; subst e
        refine S_indexStr hy' hd hx ((TT.find_ok hP hti).str rfl) hb.1 ?_
        rw [List.getD_eq_getElem?_getD, List.getElem?_eq_getElem (by omega)]; rfl
      · cases h
    · next m e _ _ _ _ hti =>
      obtain ⟨_, hT, hs⟩ := (TT.find_ok hP hti).ar m 1 e rfl
      split at h
      · next hte =>
        have hE := TT.find_ok hP hte
        split at h
        · next l =>
          split at h
          · next q hq =>
            cases h
            have hb := hC (0 ≤ i ∧ i < (m : Int)) (by simp)
            rw [nthE_eq] at hq
            exact S_indexAgg hy' hd hx hT hE.agg hs hb.1 hb.2 (by rw [avL_get, hq]; rfl)
          · cases h
        · next m' f =>
          obtain ⟨hc, h⟩ := bif_some h
          cases h
          simp only [Bool.and_eq_true] at hc
          have e1 := nat_eq hc.2; subst e1
          have hb := hC (0 ≤ i ∧ i < (m' : Int)) (by simp)
          exact (S_indexAgg hy' hd (hx.trans Gv.agg') hT hE.agg hs hb.1 hb.2 (v := .p (f i.toNat).pv) (by rw [List.getElem?_map, azC_get (by omega)]; rfl)).gv (Gv.sh' hc.1)
        · cases h
      · cases h
    · next m s e _ _ _ _ hns hti =>
      obtain ⟨_, hT, hs⟩ := (TT.find_ok hP hti).ar m s e rfl
      split at h
      · next hte =>
        have hE := TT.find_ok hP hte
        split at h
        · next l =>
          split at h
          · next q hq =>
            cases h
            have hb := hC (0 ≤ i ∧ i < (m : Int)) (by simp)
            obtain ⟨h1, h2⟩ := tkE_eq hq
            rw [dpE_eq] at h1
            exact S_indexAggN hy' hd hx hT hE.agg hs hb.1 hb.2 (by rw [← avL_drop, ← avL_take, ← h1])
          · cases h
        · cases h
      · cases h
    · cases h
end
end Go.Proofs.YtcebndkiagbddaaGreatDoor

/- What is computed of new blocks, appends and conversions is so. It names no function of the program. -/
namespace Go.Proofs.YtcebndkiagbddaaGreatDoor
open Go.RowKit
set_option linter.unusedVariables false
set_option linter.unusedSimpArgs false

theorem lzC_sub {m sz k i : Nat} {f : Nat → Nat → EV} (h : i + k ≤ m) : ((lzC m sz f).drop (i * sz)).take (k * sz) = lzC k sz (fun a b => f (i + a) b) := by
  apply List.ext_getElem?
  intro q
  rw [List.getElem?_take]
  by_cases hq : q < k * sz
  · rw [if_pos hq, List.getElem?_drop]
    have hs : 0 < sz := by
      rcases Nat.eq_zero_or_pos sz with e | e
      · subst e; omega
      · exact e
    have h1 : q / sz < k := Nat.div_lt_of_lt_mul (by rw [Nat.mul_comm]; exact hq)
    have h2 := Nat.mod_lt q hs
    have h3 := Nat.div_add_mod q sz
    have e1 : i * sz + q = (i + q / sz) * sz + q % sz := by rw [Nat.add_mul, Nat.mul_comm (q / sz) sz]; omega
    have e2 := lz_get k sz (fun a b => f (i + a) b) (i := q / sz) (j := q % sz) h1 h2
    rw [Nat.mul_comm (q / sz) sz, h3] at e2
    rw [e1, lz_get m sz f (by omega) h2, e2]
  · rw [if_neg hq, List.getElem?_eq_none (by rw [lz_len]; omega)]
theorem lzC_ext {m sz : Nat} {f g : Nat → Nat → EV} (h : ∀ i, i < m → ∀ j, j < sz → f i j = g i j) : lzC m sz f = lzC m sz g := by
  unfold lzC
  have : ∀ l : List Nat, (∀ i ∈ l, i < m) → (l.flatMap fun i => (List.range sz).map fun j => (f i j).pv) = l.flatMap fun i => (List.range sz).map fun j => (g i j).pv := by
    intro l
    induction l with
    | nil => intro _; rfl
    | cons a l ih =>
      intro hl
      rw [List.flatMap_cons, List.flatMap_cons, ih (fun i hi => hl i (List.mem_cons_of_mem _ hi))]
      congr 1
      exact List.map_congr_left fun j hj => by rw [h a (hl a (by simp)) j (List.mem_range.1 hj)]
  exact this _ fun i hi => List.mem_range.1 hi
theorem lzC_add (n k sz : Nat) (f : Nat → Nat → EV) : lzC (n + k) sz f = lzC n sz f ++ lzC k sz (fun a b => f (n + a) b) := by
  have h1 := lzC_sub (m := n + k) (sz := sz) (k := n) (i := 0) (f := f) (by omega)
  have h2 := lzC_sub (m := n + k) (sz := sz) (k := k) (i := n) (f := f) (by omega)
  have e : (fun a b => f (0 + a) b) = f := by funext a b; rw [Nat.zero_add]
  rw [e] at h1
  rw [← h1, ← h2, Nat.zero_mul, List.drop_zero]
  have hl : (lzC (n + k) sz f).length = (n + k) * sz := lz_len _ _ _
  rw [List.take_of_length_le (l := (lzC (n + k) sz f).drop (n * sz)) (by rw [List.length_drop, hl, Nat.add_mul]; omega), List.take_append_drop]
theorem lzC_of (k sz : Nat) (m : List EV) (h : m.length = k * sz) : lzC k sz (fun a b => m.getD (a * sz + b) .any) = pvL m := by
  apply List.ext_getElem?
  intro q
  by_cases hq : q < k * sz
  · have hs : 0 < sz := by
      rcases Nat.eq_zero_or_pos sz with e | e
      · subst e; omega
      · exact e
    have h1 : q / sz < k := Nat.div_lt_of_lt_mul (by rw [Nat.mul_comm]; exact hq)
    have h2 := Nat.mod_lt q hs
    have h3 := Nat.div_add_mod q sz
    have e2 := lz_get k sz (fun a b => m.getD (a * sz + b) .any) (i := q / sz) (j := q % sz) h1 h2
    rw [Nat.mul_comm (q / sz) sz, h3] at e2
    rw [e2, pvL_get, List.getD_eq_getElem?_getD, List.getElem?_eq_getElem (by omega)]; rfl
  · rw [List.getElem?_eq_none (by rw [lz_len]; omega), List.getElem?_eq_none (by rw [pvL_length]; omega)]
theorem av_cs (x : EV) (h : onesE (csE x) = true) : x.av.cs = avL (csE x) := by
  cases x with
  | agg l => rfl
  | tup l => simp [csE, onesE, oneE] at h
  | raw x => simp [csE, onesE, oneE] at h
  | cnd g x => simp [csE, onesE, oneE] at h
  | any => simp [csE, onesE, oneE] at h
  | az n f => simp [csE, onesE, oneE] at h
  | rp t => cases t <;> rfl
  | _ => rfl
theorem boxV_vs : ∀ z : List Value, boxV z = avL (vsE z)
  | [] => rfl
  | x :: z => by
    have := boxV_vs z
    simp only [boxV, List.map_cons] at this ⊢
    simp only [vsE, avL, EV.av, this]
theorem putL_mid {α : Type} (xs l : List α) (o : Nat) (h : o + xs.length ≤ l.length) : putL l o xs = l.take o ++ xs ++ l.drop (o + xs.length) := by
  induction xs generalizing l o with
  | nil => simp [putL]
  | cons x xs ih =>
    show putL (l.set o x) (o + 1) xs = _
    simp only [List.length_cons] at h
    rw [ih (l.set o x) (o + 1) (by simp; omega)]
    have e1 : (l.set o x).take (o + 1) = l.take o ++ [x] := by
      apply List.ext_getElem?
      intro i
      rw [List.getElem?_take, List.getElem?_set]
      by_cases h1 : i < o
      · rw [if_pos (by omega), if_neg (by omega), List.getElem?_append_left (by simp; omega), List.getElem?_take, if_pos h1]
      · by_cases h2 : i = o
        · subst h2; rw [if_pos (by omega), if_pos rfl, if_pos (by omega), List.getElem?_append_right (by simp; omega)]
          simp [show i - min i l.length = 0 from by omega]
        · rw [if_neg (by omega), List.getElem?_eq_none (by simp; omega)]
    rw [e1, List.drop_set_of_lt (by omega)]
    simp only [List.append_assoc, List.cons_append, List.nil_append, List.length_cons]
    rw [show o + 1 + xs.length = o + (xs.length + 1) from by omega]
theorem fillE_ok (pl : List (Nat × Nat × Bool)) : ∀ {cells : List EV} {parts : List (Nat × EV)} {out : List EV}, fillE pl cells parts = some out →
    fillA (pl.map fun p => (p.1, p.2.1)) (avL cells) (parts.map fun p => (p.1, p.2.av)) = some (avL out) ∧ ∀ p ∈ parts, p.2 ≠ .any
  | cells, [], out, h => by unfold fillE at h; cases h; exact ⟨rfl, by simp⟩
  | cells, (i, x) :: rest, out, h => by
    unfold fillE at h
    cases hi : pl[i]? with
    | none => rw [hi] at h; cases h
    | some q =>
      obtain ⟨o, s, g⟩ := q
      rw [hi] at h
      simp only at h
      cases hc : Nat.beq (csE x).length s && onesE (csE x) && Nat.ble (o + s) cells.length with
      | false => rw [hc] at h; cases h
      | true =>
        rw [hc] at h
        simp only [cond_true] at h
        simp only [Bool.and_eq_true, Nat.ble_eq] at hc
        obtain ⟨hc, hle⟩ := hc
        have hlen := nat_eq hc.1
        split at h
        · next c hq =>
          obtain ⟨h1, h2⟩ := ptE_eq hq
          obtain ⟨k1, k2⟩ := fillE_ok pl h
          have hcs := av_cs x hc.2
          have hne : x ≠ .any := fun e => by subst e; simp [csE, onesE, oneE] at hc
          refine ⟨?_, fun p hp => ?_⟩
          · simp only [List.map_cons, fillA, List.getElem?_map, hi, Option.map_some]
            rw [hcs]
            rw [if_pos ⟨by rw [avL_length]; exact hlen, by rw [avL_length]; exact hle, ones_av _ hc.2⟩]
            rw [← avL_put, ← h1]; exact k1
          · rcases List.mem_cons.1 hp with rfl | hp
            · exact hne
            · exact k2 p hp
        · cases h
end Go.Proofs.YtcebndkiagbddaaGreatDoor

/- What is computed of one operation is so. It names no function of the program. -/
namespace Go.Proofs.YtcebndkiagbddaaGreatDoor
open Go.RowKit
set_option linter.unusedVariables false
set_option linter.unusedSimpArgs false

section
variable {P : Program} {E : Env} {kp : List Nat} {n : Nat} {ops : Array Oper} {d : Nat} {ty : TypeId} {ps : String} {af : Array Edge}

/-- A slice of the call's own is seen as shared: its row is frozen up to what is known of it. -/
theorem wk_freeze {st : AS} (t r : Nat) {m sz pub : Nat} {cells : List PV} {T : TypeId} (hx : Gv (look AV.any st.slots t) (.osl r m)) (hl : st.ob r = .row cells T sz pub) :
    Wk E kp n st ⟨(t, .p (.sl cells m)) :: st.slots, (r, .row cells T sz cells.length) :: st.heap⟩ := by
  rintro a w ⟨φ, Pub, I, h0, hn, hsl⟩
  obtain ⟨Pub', I', H, k1, k2⟩ := I.share hl (.inl rfl)
  refine ⟨φ, Pub', I', h0, hn, fun s => ?_⟩
  simp only [look_cons]
  split
  · next e =>
    subst e
    have k := shA_R k1 k2 (RA_mono H _ _ (fun _ _ => rfl) (hx _ _ _ _ (hsl t)))
    simpa [shA] using k
  · exact RA_mono H _ _ (fun _ _ => rfl) (hsl s)
variable {tab : TT} {vs : List (Nat × EV)} {bs : List (Nat × EB)} {st : ES}
theorem wk_refl {st : AS} : Wk E kp n st st := fun _ _ h => h
theorem frz_ok {x : Operand} {y : EV} {R : RS} (S : Sub vs bs st) (h : frz vs bs x = some (y, R)) (hC : ∀ c ∈ R.C, c) :
    Wk E kp n st.as (R.app st).as ∧ Gv ((R.app st).as.ev x) y.av ∧ (∀ z, (∀ q m, evOf vs z ≠ .osl q m) → (R.app st).as.ev z = st.as.ev z) := by
  unfold frz at h
  split at h
  · next t =>
    split at h
    · next r m hv =>
      have hx : Gv (look AV.any st.as.slots t) (.osl r m) := by
        have := S.v (.tmp t)
        have e : evOf vs (.tmp t) = .osl r m := hv
        rw [e] at this; exact this
      have oth : ∀ (y : AV) (H : List (Nat × OB)) (z : Operand), (∀ q m, evOf vs z ≠ .osl q m) → (AS.mk ((t, y) :: st.as.slots) H).ev z = st.as.ev z := fun y H z hz => by
        cases z with
        | tmp t' =>
          show look AV.any ((t, y) :: st.as.slots) t' = look AV.any st.as.slots t'
          rw [look_cons, if_neg (fun e => hz r m (by rw [← e]; exact hv))]
        | _ => rfl
      split at h
      · next l T pub hb =>
        cases h
        have e : m = l.length := hC (m = l.length) (by simp)
        subst e
        have k := wk_freeze (E := E) (kp := kp) (n := n) t r hx (S.ob hb (by simp))
        rw [List.length_map] at k
        refine ⟨k, ?_, fun z hz => oth _ _ z hz⟩
        show Gv (look AV.any ((t, _) :: _) t) _
        rw [look_cons, if_pos rfl]; exact Gv.r
      · next m' sz f T pub hb =>
        cases h
        have e : m = m' := hC (m = m') (by simp)
        subst e
        have k := wk_freeze (E := E) (kp := kp) (n := n) t r hx (S.ob hb (by simp))
        rw [lz_len] at k
        refine ⟨?_, ?_, fun z hz => oth _ _ z hz⟩
        · exact k
        · show Gv (look AV.any ((t, _) :: _) t) _
          rw [look_cons, if_pos rfl]; exact Gv.r
      · next cells T sz pub hb =>
        cases h
        have k := wk_freeze (E := E) (kp := kp) (n := n) t r hx (S.ob hb (by simp))
        rw [pvL_length] at k
        refine ⟨k, ?_, fun z hz => oth _ _ z hz⟩
        show Gv (look AV.any ((t, _) :: _) t) _
        rw [look_cons, if_pos rfl]; exact Gv.r
      · cases h
    · next y' hv =>
      cases h
      exact ⟨wk_refl, S.v (.tmp t), fun _ _ => rfl⟩
  · cases h
    exact ⟨wk_refl, S.v _, fun _ _ => rfl⟩

theorem optInt {y : Option EV} {o : Option Int} (h : (match y with | none => some none | some y => (asInt y).map fun p => some p.2) = some o) : (y = none ∧ o = none) ∨ ∃ z k i, y = some z ∧ o = some i ∧ asInt z = some (k, i) := by
  cases y with
  | none => cases h; exact .inl ⟨rfl, rfl⟩
  | some z =>
    simp only at h
    cases hz : asInt z with
    | none => rw [hz] at h; cases h
    | some p =>
      obtain ⟨k, i⟩ := p
      rw [hz] at h; cases h
      exact .inr ⟨z, k, i, rfl, rfl, hz⟩
theorem cutF_ok {T : TypeId} {x : Operand} {lo hi : Option Operand} {u z : EV} {C : List Prop} (hP : tab.ok P) {st : AS} {f : Operand → EV} (h : cutF tab T u (lo.map f) (hi.map f) = some (C, z)) (hC : ∀ c ∈ C, c) (hd : Nat.blt d n = true) (hx : Gv (st.ev x) u.av)
    (hf : ∀ y, (lo = some y ∨ hi = some y) → (asInt (f y)).isSome = true → Gv (st.ev y) (f y).av) : Step P E kp n ops ⟨some d, .slice T x lo hi none, ty, ps, af, none⟩ st (st.put d z.av) := by
  unfold cutF at h
  split at h
  · next lo' hi' h1 h2 =>
    have g1 := optInt h1
    have g2 := optInt h2
    have i1 : ∀ i, lo' = some i → ∃ y k, lo = some y ∧ Gv (st.ev y) (.p (.v (.int k i))) := fun i hi => by
      rcases g1 with ⟨_, e⟩ | ⟨z, k, j, e1, e2, e3⟩
      · rw [e] at hi; cases hi
      · rw [e2] at hi; cases hi
        cases lo with
        | none => cases e1
        | some y => cases e1; exact ⟨y, k, rfl, (hf y (.inl rfl) (by rw [e3]; rfl)).trans (asInt_gv e3)⟩
    have i2 : ∀ i, hi' = some i → ∃ y k, hi = some y ∧ Gv (st.ev y) (.p (.v (.int k i))) := fun i hq => by
      rcases g2 with ⟨_, e⟩ | ⟨z, k, j, e1, e2, e3⟩
      · rw [e] at hq; cases hq
      · rw [e2] at hq; cases hq
        cases hi with
        | none => cases e1
        | some y => cases e1; exact ⟨y, k, rfl, (hf y (.inr rfl) (by rw [e3]; rfl)).trans (asInt_gv e3)⟩
    have n1 : lo' = none → lo = none := fun e => by
      rcases g1 with ⟨e1, _⟩ | ⟨z, k, j, e1, e2, e3⟩
      · cases lo with
        | none => rfl
        | some y => cases e1
      · rw [e2] at e; cases e
    have n2 : hi' = none → hi = none := fun e => by
      rcases g2 with ⟨e1, _⟩ | ⟨z, k, j, e1, e2, e3⟩
      · cases hi with
        | none => rfl
        | some y => cases e1
      · rw [e2] at e; cases e
    clear h1 h2 g1 g2
    split at h
    · next hti =>
      have hT := (TT.find_ok hP hti).str rfl
      split at h
      · next l hl =>
        have e := asS_eq hl; subst e
        cases lo' with
        | none =>
          obtain rfl := n1 rfl
          cases hi' with
          | none => cases h
          | some j =>
            obtain ⟨y, k, rfl, hy⟩ := i2 j rfl
            cases h
            have hb := hC (0 ≤ j ∧ j ≤ (l.length : Int)) (by simp)
            exact S_strHi hx hT hd hy hb.1 hb.2
        | some i =>
          obtain ⟨y, k, rfl, hy⟩ := i1 i rfl
          cases hi' with
          | none =>
            obtain rfl := n2 rfl
            cases h
            have hb := hC (0 ≤ i ∧ i ≤ (l.length : Int)) (by simp)
            exact S_strLo hx hT hd hy hb.1 hb.2
          | some j =>
            obtain ⟨y2, k2, rfl, hy2⟩ := i2 j rfl
            cases h
            have hb := hC (0 ≤ i ∧ i ≤ j ∧ j ≤ (l.length : Int)) (by simp)
            exact S_strLoHi hx hT hd hy hy2 hb.1 hb.2.1 hb.2.2
      · cases h
    · next e s _ _ _ _ _ _ hti =>
      obtain ⟨_, hT, _⟩ := (TT.find_ok hP hti).sl e s _ _ rfl
      split at h
      · next l =>
        cases hc : Nat.beq s 1 with
        | false => rw [hc] at h; cases h
        | true =>
          rw [hc] at h
          simp only [cond_true] at h
          have e1 := nat_eq hc; subst e1
          cases lo' with
          | none =>
            obtain rfl := n1 rfl
            cases hi' with
            | none => cases h
            | some j =>
              obtain ⟨y, k, rfl, hy⟩ := i2 j rfl
              cases h
              have hb := hC (0 ≤ j ∧ j ≤ (l.length : Int)) (by simp)
              exact S_byHi hx hT hd hy rfl hb.1 hb.2
          | some i =>
            obtain ⟨y, k, rfl, hy⟩ := i1 i rfl
            cases hi' with
            | none =>
              obtain rfl := n2 rfl
              cases h
              have hb := hC (0 ≤ i ∧ i ≤ (l.length : Int)) (by simp)
              exact S_byLo hx hT hd hy rfl hb.1 hb.2
            | some j =>
              obtain ⟨y2, k2, rfl, hy2⟩ := i2 j rfl
              cases h
              have hb := hC (0 ≤ i ∧ i ≤ j ∧ j ≤ (l.length : Int)) (by simp)
              exact S_byLoHi hx hT hd hy hy2 rfl rfl hb.1 hb.2.1 hb.2.2
      · next m sz g =>
        cases hc : Nat.beq s sz with
        | false => rw [hc] at h; cases h
        | true =>
          rw [hc] at h
          simp only [cond_true] at h
          have e1 := nat_eq hc; subst e1
          have hx' : Gv (st.ev x) (.p (.sl (lzC m s g) m)) := by simpa [EV.av, EV.pv] using hx
          have hlen : m * s ≤ (lzC m s g).length := by rw [lz_len]; exact Nat.le_refl _
          cases lo' with
          | none =>
            obtain rfl := n1 rfl
            cases hi' with
            | none => cases h
            | some j =>
              obtain ⟨y, k, rfl, hy⟩ := i2 j rfl
              cases h
              have hb := hC (0 ≤ j ∧ j ≤ (m : Int)) (by simp)
              refine (S_slHi hx' hT hlen hd hy hb.1 hb.2).cast (put_eq ?_)
              have k := lzC_sub (m := m) (sz := s) (k := j.toNat) (i := 0) (f := g) (by omega)
              have e : (fun a b => g (0 + a) b) = g := by funext a b; rw [Nat.zero_add]
              rw [Nat.zero_mul, List.drop_zero, e] at k
              rw [k]; simp [EV.av, EV.pv]
          | some i =>
            obtain ⟨y, k, rfl, hy⟩ := i1 i rfl
            cases hi' with
            | none =>
              obtain rfl := n2 rfl
              cases h
              have hb := hC (0 ≤ i ∧ i ≤ (m : Int)) (by simp)
              refine (S_slLo hx' hT hlen hd hy hb.1 hb.2).cast (put_eq ?_)
              rw [lzC_sub (by omega)]; simp [EV.av, EV.pv]
            | some j =>
              obtain ⟨y2, k2, rfl, hy2⟩ := i2 j rfl
              cases h
              have hb := hC (0 ≤ i ∧ i ≤ j ∧ j ≤ (m : Int)) (by simp)
              refine (S_slLoHi hx' hT hlen hd hy hy2 hb.1 hb.2.1 hb.2.2).cast (put_eq ?_)
              rw [lzC_sub (by omega)]; simp [EV.av, EV.pv]
      · cases h
    · cases h
  · cases h
theorem allocF_ok {T : TypeId} {R : RS} (hP : tab.ok P) (h : allocF tab d T = some R) (hf : ∀ p ∈ R.hp, st.free kp p.1 = true) (hd : Nat.blt d n = true) : Step P E kp n ops ⟨some d, .alloc T, ty, ps, af, none⟩ st.as (R.app st).as := by
  unfold allocF at h
  split at h
  · next z _ hti =>
    cases h
    obtain ⟨h1, h2⟩ := (TT.find_ok hP hti).ze z rfl
    have hfr := hf (nmB d, .box (vsE z) T) (by simp)
    refine (S_alloc (nmB d) h1 h2 (by rw [as_free]; exact hfr) hd).cast ?_
    rw [boxV_vs]; rfl
  · cases h
theorem hasL_cs {r : Nat} {x : EV} {st : ES} (h : st.free kp r = true) (hx : ∀ q, x.has q = true → st.free kp q = false) : hasE r (csE x) = false := by
  cases hq : hasE r (csE x) with
  | false => rfl
  | true =>
    have : x.has r = true := by
      cases x with
      | agg l => simp only [csE] at hq; simp only [EV.has]; exact hq
      | _ => simp only [csE, hasE, Bool.or_false] at hq; exact hq
    rw [hx r this] at h; cases h
theorem has_slot {r t : Nat} {l : List (Nat × EV)} (h : (look EV.any l t).has r = true) : hasS r l = true := by
  induction l with
  | nil => simp [look, EV.has] at h
  | cons p l ih =>
    obtain ⟨k, x⟩ := p
    rw [look_cons] at h
    simp only [hasS, Bool.or_eq_true]
    split at h
    · exact .inl h
    · exact .inr (ih h)
theorem ev_free (S : Sub vs bs st) (x : Operand) (q : Nat) (h : (evOf vs x).has q = true) : st.free kp q = false := by
  rcases S.e x with k | k
  · rw [k] at h; simp [EV.has] at h
  · rw [← k] at h
    cases x with
    | tmp t =>
      have := has_slot (l := st.slots) h
      unfold ES.free; rw [this]; simp
    | const c => simp [ES.ev, evOf, EV.has] at h
    | func f => simp [ES.ev, evOf, EV.has] at h
    | global g => simp [ES.ev, evOf, EV.has] at h
theorem boxF_ok {T : TypeId} {x : Operand} {R : RS} (S : Sub vs bs st) (h : boxF d T (evOf vs x) = some R) (hC : ∀ c ∈ R.C, c) (hf : ∀ p ∈ R.hp, st.free kp p.1 = true) (hd : Nat.blt d n = true) : Step P E kp n ops ⟨some d, .box T x, ty, ps, af, none⟩ st.as (R.app st).as := by
  unfold boxF at h
  split at h
  · next m f hx =>
    cases h
    have hfr := hf (nmB d, .bz m f T) (by simp)
    have ho := hC (∀ i, i < m → oneE (f i) = true ∧ (f i).sh = true) (by simp)
    have gx := S.v x; rw [hx] at gx
    refine (S_box (y := .agg ((azC m f).map AV.p)) (nmB d) (gx.trans Gv.agg') (ones_azC (fun i hi => (ho i hi).1) (fun i hi => (ho i hi).2)) (hasL_mapP _ _) (by rw [as_free]; exact hfr) hd).cast ?_
    rfl
  · cases hc : onesE (csE (evOf vs x)) with
    | false => rw [hc] at h; cases h
    | true =>
      rw [hc] at h; cases h
      have hfr := hf (nmB d, .box (csE (evOf vs x)) T) (by simp)
      refine (S_box (nmB d) (S.v x) (by rw [av_cs _ hc]; exact ones_av _ hc) (by rw [av_cs _ hc, has_avL]; exact hasL_cs hfr (ev_free S x)) (by rw [as_free]; exact hfr) hd).cast ?_
      rw [av_cs _ hc]; rfl
theorem parts_eq (S : Sub vs bs st) : ∀ {parts : List (Nat × Operand)}, (∀ p ∈ partsE vs parts, p.2 ≠ EV.any) → (parts.map fun p => (p.1, st.as.ev p.2)) = (partsE vs parts).map fun p => (p.1, p.2.av)
  | [], _ => rfl
  | (i, x) :: l, h => by
    simp only [partsE, List.map_cons]
    rw [parts_eq S (fun p hp => h p (by simp only [partsE]; exact List.mem_cons_of_mem _ hp)), S.eq (h (i, evOf vs x) (by simp [partsE]))]
theorem buildF_ok {T : TypeId} {parts : Array (Nat × Operand)} {R : RS} (hP : tab.ok P) (S : Sub vs bs st) (h : buildF tab vs d T parts.toList = some R) (hd : Nat.blt d n = true) : Step P E kp n ops ⟨some d, .build T parts, ty, ps, af, none⟩ st.as (R.app st).as := by
  unfold buildF at h
  split at h
  · next pl _ _ z _ hti =>
    have hT := TT.find_ok hP hti
    split at h
    · next l hl =>
      cases h
      obtain ⟨k1, k2⟩ := fillE_ok pl hl
      have h2 : parts = parts.toList.toArray := by simp
      rw [h2]
      exact S_build (hT.st pl rfl) (hT.ze z rfl).1 (by rw [boxV_vs, parts_eq S k2]; exact k1) hd
    · cases h
  · next m s e _ _ z _ hti =>
    have hT := TT.find_ok hP hti
    split at h
    · next l hl =>
      cases h
      obtain ⟨k1, k2⟩ := fillE_ok _ hl
      have h2 : parts = parts.toList.toArray := by simp
      rw [h2]
      have hp : ∀ (m o : Nat), ((arPl s m o).map fun p => (p.1, p.2.1)) = (List.range m).map fun i => (o + i * s, s) := by
        intro m
        induction m with
        | zero => intro o; rfl
        | succ m ih =>
          intro o
          rw [List.range_succ_eq_map, List.map_cons, List.map_map]
          simp only [arPl, List.map_cons, ih, Nat.zero_mul, Nat.add_zero]
          congr 1
          apply List.map_congr_left
          intro i _
          show (o + s + i * s, s) = (o + (i + 1) * s, s)
          rw [Nat.succ_mul]; congr 1; omega
      have hp0 := hp m 0
      simp only [Nat.zero_add] at hp0
      exact S_buildAr (hT.ar m s e rfl).1 (hT.ze z rfl).1 (by rw [boxV_vs, parts_eq S k2, ← hp0]; exact k1) hd
    · cases h
  · cases h
theorem elsE_ok {sz : Nat} (len : Nat) (hsz : 0 < sz) : ∀ {parts : List (Nat × EV)} {l : List EV} (k : Nat) (cells : List AV), elsE sz k parts = some l → k + parts.length = len → cells.length = len * sz →
    fillA ((List.range len).map fun i => (i * sz, sz)) cells (parts.map fun p => (p.1, p.2.av)) = some (cells.take (k * sz) ++ avL l) ∧ (∀ p ∈ parts, p.2 ≠ .any) ∧ onesE l = true ∧ shL l = true ∧ l.length = parts.length * sz
  | [], l, k, cells, h, hk, hl => by
    unfold elsE at h; cases h
    refine ⟨?_, by simp, rfl, rfl, by simp⟩
    simp only [List.map_nil, fillA, avL, List.append_nil]
    rw [List.take_of_length_le]
    simp only [List.length_nil] at hk
    rw [hl, ← hk]; simp
  | (i, x) :: rest, l, k, cells, h, hk, hl => by
    unfold elsE at h
    cases hc : Nat.beq i k && Nat.beq (csE x).length sz && onesE (csE x) && shL (csE x) with
    | false => rw [hc] at h; cases h
    | true =>
      rw [hc] at h
      simp only [cond_true] at h
      simp only [Bool.and_eq_true] at hc
      obtain ⟨⟨⟨c1, c2⟩, c3⟩, c4⟩ := hc
      have e1 := nat_eq c1; subst e1
      have e2 := nat_eq c2
      split at h
      · next m hm =>
        cases h
        simp only [List.length_cons] at hk
        have hi : i < len := by omega
        have hin : i * sz + sz ≤ cells.length := by
          rw [hl]
          have : (i + 1) * sz ≤ len * sz := Nat.mul_le_mul_right _ hi
          rw [Nat.succ_mul] at this; exact this
        have hcs := av_cs x c3
        have hpl : (putL cells (i * sz) (avL (csE x))).length = len * sz := by rw [putL_length]; exact hl
        obtain ⟨k1, k2, k3, k4, k5⟩ := elsE_ok len hsz (i + 1) (putL cells (i * sz) (avL (csE x))) hm (by omega) hpl
        have hne : x ≠ .any := fun e => by subst e; simp [csE, onesE, oneE] at c3
        have on : ∀ (a b : List EV), onesE a = true → onesE b = true → onesE (a ++ b) = true := by
          intro a b ha hb
          induction a with
          | nil => exact hb
          | cons y a ih => simp only [onesE, Bool.and_eq_true, List.cons_append] at ha ⊢; exact ⟨ha.1, ih ha.2⟩
        have os : ∀ (a b : List EV), shL a = true → shL b = true → shL (a ++ b) = true := by
          intro a b ha hb
          induction a with
          | nil => exact hb
          | cons y a ih => simp only [shL, Bool.and_eq_true, List.cons_append] at ha ⊢; exact ⟨ha.1, ih ha.2⟩
        refine ⟨?_, fun p hp => ?_, on _ _ c3 k3, os _ _ c4 k4, by rw [List.length_append, e2, k5, List.length_cons, Nat.succ_mul]; omega⟩
        · simp only [List.map_cons, fillA, List.getElem?_map, List.getElem?_range hi, Option.map_some]
          rw [hcs, if_pos ⟨by rw [avL_length]; exact e2, hin, ones_av _ c3⟩, k1]
          congr 1
          rw [avL_append, ← List.append_assoc]
          congr 1
          rw [putL_mid _ _ _ (by rw [avL_length, e2]; exact hin), avL_length, e2]
          have e3 : (i + 1) * sz = i * sz + sz := Nat.succ_mul _ _
          rw [e3, List.take_left' (by simp [avL_length, e2]; omega)]
        · rcases List.mem_cons.1 hp with rfl | hp
          · exact hne
          · exact k2 p hp
      · cases h
theorem u8sE_ok : ∀ {l : List EV} {q : List UInt8}, u8sE l = some q → pvL l = q.map b8P ∧ q.length = l.length
  | [], q, h => by unfold u8sE at h; cases h; exact ⟨rfl, rfl⟩
  | x :: l, q, h => by
    unfold u8sE at h
    split at h
    · next h0 => cases h0
    · next c l' heq =>
      cases heq
      split at h
      · next m hm => cases h; obtain ⟨h1, h2⟩ := u8sE_ok hm; exact ⟨by simp [pvL, EV.pv, h1], by simp [h2]⟩
      · cases h
    · next m l' heq =>
      cases heq
      cases hb : Nat.blt m 256 with
      | false => rw [hb] at h; cases h
      | true =>
        rw [hb] at h
        simp only [cond_true] at h
        split at h
        · next q' hq =>
          cases h
          obtain ⟨h1, h2⟩ := u8sE_ok hq
          rw [Nat.blt_eq] at hb
          have e : ((UInt8.ofNat m).toNat : Int) = Int.ofNat m := by rw [UInt8.toNat_ofNat']; simp; omega
          exact ⟨by simp only [pvL, EV.pv, h1, List.map_cons, b8P, e], by simp [h2]⟩
        · cases h
    · cases h
theorem isU8_ok {e sz by_ : Nat} {z : List Value} (hP : tab.ok P) (h : isU8 tab e sz by_ z = true) : P.underlying e = some (.int .u8) ∧ sz = 1 ∧ by_ ≤ 10000 ∧ z = [.int .u8 0] := by
  unfold isU8 at h
  split at h
  · next hti =>
    simp only [Bool.and_eq_true, Nat.ble_eq] at h
    refine ⟨(TT.find_ok hP hti).int _ rfl, nat_eq h.1.1, h.1.2, ?_⟩
    have h2 := h.2
    split at h2
    · rfl
    · cases h2
  · cases h
end
end Go.Proofs.YtcebndkiagbddaaGreatDoor

/- What is computed of one operation is so: slices made, appends, conversions, built-in functions; all of them. It names no function of the program. -/
namespace Go.Proofs.YtcebndkiagbddaaGreatDoor
open Go.RowKit
set_option linter.unusedVariables false
set_option linter.unusedSimpArgs false

section
variable {P : Program} {E : Env} {kp : List Nat} {n : Nat} {ops : Array Oper} {d : Nat} {ty : TypeId} {ps : String} {af : Array Edge}
variable {tab : TT} {vs : List (Nat × EV)} {bs : List (Nat × EB)} {st : ES}

theorem rnL_ok : ∀ {l l' : List EV} {k : Nat} {ns : List Nat}, rnL k l = some (l', ns) → l'.length = l.length ∧ ∀ (pre : List Nat), pre.length = k → ∀ (w : World) (Pub : Nat → Nat → Prop) (φ : Ghost) (us : List Value), RAs w Pub φ (avL l) us → RAs w Pub (loc φ (pre ++ ns)) (avL l') us
  | [], l', k, ns, h => by
    simp only [rnL] at h; cases h
    exact ⟨rfl, fun pre _ w Pub φ us k => by unfold avL RAs at k ⊢; exact k⟩
  | x :: xs, l', k, ns, h => by
    unfold rnL at h
    split at h
    · next q m =>
      split at h
      · next l2 ns2 h2 =>
        cases h
        obtain ⟨a1, a2⟩ := rnL_ok h2
        refine ⟨by simp [a1], fun pre hp w Pub φ us k => ?_⟩
        unfold avL RAs at k ⊢
        obtain ⟨u, vs, e, k1, k2⟩ := k
        have e1 : loc φ (pre ++ q :: ns2) pre.length = φ q := loc_get (by simp)
        refine ⟨u, vs, e, ?_, ?_⟩
        · unfold EV.av RA at k1 ⊢
          rw [← hp, e1]; exact k1
        · have := a2 (pre ++ [q]) (by simp [hp]) w Pub φ vs k2
          rw [List.append_assoc] at this
          exact this
      · cases h
    · obtain ⟨hs, h⟩ := bif_some h
      split at h
      · next l2 ns2 h2 =>
        cases h
        obtain ⟨a1, a2⟩ := rnL_ok h2
        refine ⟨by simp [a1], fun pre hp w Pub φ us k => ?_⟩
        unfold avL RAs at k ⊢
        obtain ⟨u, vs, e, k1, k2⟩ := k
        exact ⟨u, vs, e, (av_pv _ u hs).2 ((av_pv _ u hs).1 k1), a2 pre hp w Pub φ vs k2⟩
      · cases h
theorem avC_one {l : List EV} {sz : Nat} (h : l.length = sz) : avC 1 sz (fun _ j => l.getD j .any) = avL l := by
  unfold avC
  simp only [List.range_one, List.flatMap_cons, List.flatMap_nil, List.append_nil]
  apply List.ext_getElem?
  intro q
  rw [avL_map, List.getElem?_map, List.getElem?_map]
  by_cases hq : q < sz
  · rw [List.getElem?_range hq, List.getElem?_eq_getElem (by omega)]
    simp [List.getD_eq_getElem?_getD, List.getElem?_eq_getElem (show q < l.length by omega)]
  · rw [List.getElem?_eq_none (by simpa using hq), List.getElem?_eq_none (by omega)]; rfl
theorem buildSliceF_ok {T : TypeId} {len : Nat} {parts : Array (Nat × Operand)} {R : RS} (hP : tab.ok P) (S : Sub vs bs st) (h : buildSliceF tab vs d T len parts.toList = some R) (hf : ∀ p ∈ R.hp, st.free kp p.1 = true) (hd : Nat.blt d n = true) :
    Step P E kp n ops ⟨some d, .buildSlice T len parts, ty, ps, af, none⟩ st.as (R.app st).as := by
  unfold buildSliceF at h
  split at h
  · next e sz by_ z _ _ _ _ hti =>
    obtain ⟨_, _, hT, hsz, hz⟩ := (TT.find_ok hP hti).sl e sz by_ z rfl
    split at h
    · next l hl =>
      cases hc : Nat.beq parts.toList.length len && Nat.ble (len * sz) 1000000 with
      | false => rw [hc] at h; cases h
      | true =>
        rw [hc] at h
        simp only [cond_true] at h
        simp only [Bool.and_eq_true] at hc
        have hlen := nat_eq hc.1
        obtain ⟨i, v, t1, t2, t3, t4, t5, t6, t7⟩ := ap_of hT
        have hzl : z.length = sz := by rw [← t7]; simpa using t6
        have hp : parts = parts.toList.toArray := by simp
        have pl : (partsE vs parts.toList).length = len := by
          rw [← hlen]
          generalize parts.toList = q
          induction q with
          | nil => rfl
          | cons a q ih => obtain ⟨i, x⟩ := a; simp [partsE, ih]
        obtain ⟨k1, k2, k3, k4, k5⟩ := elsE_ok len hsz 0 (boxV (zerosV z len)) hl (by omega) (by simp [boxV, zerosV_length, hzl])
        rw [Nat.zero_mul, List.take_zero, List.nil_append] at k1
        rw [pl] at k5
        have fin : ∀ (eb : EB), eb.ob = .row (pvL l) e sz 0 → st.free kp (nmB d) = true → Step P E kp n ops ⟨some d, .buildSlice T len parts, ty, ps, af, none⟩ st.as (RS.app ⟨[], [(d, .osl (nmB d) len)], [(nmB d, eb)]⟩ st).as := fun eb heb hfr => by
          rcases Nat.eq_zero_or_pos len with h0 | h0
          · subst h0
            have hpn : parts = #[] := by
              have : parts.toList = [] := List.eq_nil_of_length_eq_zero hlen
              rw [hp, this]
            have hln : l = [] := List.eq_nil_of_length_eq_zero (by omega)
            rw [hpn]
            refine (S_buildSlice0 (nmB d) hT (by rw [as_free]; exact hfr) hd).cast ?_
            rw [hln] at heb
            simp only [RS.app, ES.as, List.singleton_append, avs, obs, heb, pvL, EV.av]
          · rw [hp]
            refine (S_buildSlice (nmB d) h0 hT hsz hz hc.2 (out := avL l) (qs := pvL l) (by rw [parts_eq S k2]; exact k1) (ones_av _ k3) (toPs_pvL _ k3 k4) (by rw [pvL_length]; exact k5) (by rw [as_free]; exact hfr) hd).cast ?_
            simp only [RS.app, ES.as, List.singleton_append, avs, obs, heb, EV.av]
        split at h
        · next q hq =>
          obtain ⟨q1, q2⟩ := u8sE_ok hq
          cases hu : isU8 tab e sz by_ z with
          | false => rw [hu] at h; cases h; exact fin _ rfl (hf (nmB d, EB.row l e sz 0) (List.mem_singleton.2 rfl))
          | true =>
            rw [hu] at h; cases h
            refine fin _ ?_ (hf (nmB d, EB.rb q e 0) (List.mem_singleton.2 rfl))
            have hsz1 : sz = 1 := (isU8_ok hP hu).2.1
            show OB.row (q.map b8P) e 1 0 = _
            rw [q1, hsz1]
        · cases h; exact fin _ rfl (hf (nmB d, EB.row l e sz 0) (List.mem_singleton.2 rfl))
    · split at h
      · next x hps =>
        split at h
        · next l ns hr =>
          obtain ⟨hc, h⟩ := bif_some h
          cases h
          simp only [Bool.and_eq_true, Nat.ble_eq, Bool.not_eq_true'] at hc
          obtain ⟨⟨⟨⟨c1, c2⟩, c3⟩, c4⟩, c5⟩ := hc
          have e1 := nat_eq c1; have e2 := nat_eq c2; subst e1
          obtain ⟨i, v, t1, t2, t3, t4, t5, t6, t7⟩ := ap_of hT
          have hzl : z.length = sz := by rw [← t7]; simpa using t6
          obtain ⟨a1, a2⟩ := rnL_ok hr
          have hne : evOf vs x ≠ .any := fun e => by rw [e] at c3; simp [csE, onesE, oneE] at c3
          have hp : parts = parts.toList.toArray := by simp
          have hfr := hf (nmB d, EB.ra 1 sz (fun _ j => l.getD j .any) e ns) (List.mem_singleton.2 rfl)
          rw [hp, hps]
          refine (S_buildRa (ns := ns) (nmB d) (by omega) hT hsz hz (by simp only [Nat.one_mul, Nat.ble_eq]; exact c4) (out := avL (csE (evOf vs x))) (qs := avC 1 sz fun _ j => l.getD j .any) ?_ (ones_av _ c3) (fun w Pub φ us k => by rw [avC_one (by omega)]; exact a2 [] rfl w Pub φ us k) (by rw [fl_len]) (by rw [fl_len, avL_length]; omega) (by rw [as_free]; exact hfr) c5 hd).cast rfl
          simp only [List.map_cons, List.map_nil, List.range_one, fillA, List.getElem?_cons_zero]
          rw [S.eq hne, av_cs _ c3, if_pos ⟨by rw [avL_length]; exact e2, by simp [boxV, zerosV_length, hzl], ones_av _ c3⟩]
          rw [Nat.zero_mul, putL_whole (by simp [boxV, zerosV_length, hzl, avL_length, e2])]
        · cases h
      · cases h
  · cases h
theorem makeF_ok {T : TypeId} {x y : Operand} {u v : EV} {R : RS} (hP : tab.ok P) (h : makeF tab d T u v = some R) (hC : ∀ c ∈ R.C, c) (hf : ∀ p ∈ R.hp, st.free kp p.1 = true) (hd : Nat.blt d n = true) (hx : Gv (st.as.ev x) u.av) (hy : Gv (st.as.ev y) v.av) :
    Step P E kp n ops ⟨some d, .makeSlice T x y, ty, ps, af, none⟩ st.as (R.app st).as := by
  unfold makeF at h
  split at h
  · next i j h1 h2 =>
    have e1 := asI64_eq h1; have e2 := asI64_eq h2; subst e1 e2
    split at h
    · next e sz by_ z _ _ _ _ hti =>
      obtain ⟨_, _, hT, hsz, hz⟩ := (TT.find_ok hP hti).sl e sz by_ z rfl
      obtain ⟨ii, vv, t1, t2, t3, t4, t5, t6, t7⟩ := ap_of hT
      have hzl : z.length = sz := by rw [← t7]; simpa using t6
      have go : by_ ≤ 10000 → (0 ≤ i ∧ i ≤ j ∧ j ≤ 1000000000) → ∀ eb : EB, eb.ob = .row (zerosP z i.toNat) e sz 0 → st.free kp (nmB d) = true → Step P E kp n ops ⟨some d, .makeSlice T x y, ty, ps, af, none⟩ st.as (RS.app ⟨[0 ≤ i ∧ i ≤ j ∧ j ≤ 1000000000], [(d, .osl (nmB d) i.toNat)], [(nmB d, eb)]⟩ st).as := fun hby hb eb heb hfr => by
        obtain ⟨a, rfl⟩ := Int.eq_ofNat_of_zero_le hb.1
        obtain ⟨b, rfl⟩ := Int.eq_ofNat_of_zero_le (Int.le_trans hb.1 hb.2.1)
        have hm : by_ * b ≤ 281474976710656 := by
          have : by_ * b ≤ 10000 * 1000000000 := Nat.mul_le_mul hby (by omega)
          omega
        refine (S_make (nmB d) hx hy hT hsz hz (by omega) hm (by omega) (by rw [as_free]; exact hfr) hd).cast ?_
        rw [Int.toNat_natCast] at heb
        simp only [RS.app, ES.as, List.singleton_append, avs, obs, heb, EV.av, Int.toNat_natCast]
      cases hu : isU8 tab e sz by_ z with
      | true =>
        rw [hu] at h; cases h
        obtain ⟨_, hsz1, c2, c1⟩ := isU8_ok hP hu
        refine go c2 (hC _ (List.mem_singleton.2 rfl)) _ ?_ (hf (nmB d, EB.rb (List.replicate i.toNat 0) e 0) (List.mem_singleton.2 rfl))
        show OB.row ((List.replicate i.toNat 0).map b8P) e 1 0 = _
        rw [c1, zerosP_one, hsz1, List.map_replicate]; rfl
      | false =>
        rw [hu] at h
        simp only [cond_false] at h
        cases hb : Nat.ble by_ 10000 with
        | false => rw [hb] at h; cases h
        | true =>
          rw [hb] at h; cases h
          refine go (Nat.le_of_ble_eq_true hb) (hC _ (List.mem_singleton.2 rfl)) _ ?_ (hf (nmB d, EB.rz i.toNat sz (zF z) e 0) (List.mem_singleton.2 rfl))
          show OB.row (lzC i.toNat sz (zF z)) e sz 0 = _
          have : ∀ k, lzC k sz (zF z) = zerosP z k := by
            intro k
            induction k with
            | zero => rfl
            | succ k ih =>
              have e0 := lzC_add 1 k sz (zF z)
              rw [Nat.add_comm 1 k] at e0
              have e1 : (fun a b => zF z (1 + a) b) = zF z := rfl
              rw [e0, e1, ih]
              show _ = z.map .v ++ zerosP z k
              congr 1
              unfold lzC
              simp only [List.range_one, List.flatMap_cons, List.flatMap_nil, List.append_nil]
              apply List.ext_getElem?
              intro q
              rw [List.getElem?_map, List.getElem?_map, ← hzl]
              by_cases hq : q < z.length
              · rw [List.getElem?_range hq, List.getElem?_eq_getElem hq]
                simp [zF, EV.pv, List.getD_eq_getElem?_getD, hq]
              · rw [List.getElem?_eq_none (by simpa using hq), List.getElem?_eq_none (by omega)]; rfl
          rw [this]
    · cases h
  · cases h
def SrcE.pvs : SrcE → List PV
  | .by_ l => l.map b8P
  | .lz n sz f => lzC n sz f
  | .cs l _ => pvL l
def EB.pvs : EB → List PV
  | .rb l _ _ => l.map b8P
  | .rz n sz f _ _ => lzC n sz f
  | .row l _ _ _ => pvL l
  | _ => []
theorem srcF_ok {y : Operand} {v : EV} {src : SrcE} {C : List Prop} {sz : Nat} (S : Sub vs bs st) (h : srcF bs sz v = some (C, src)) (hC : ∀ c ∈ C, c) (hs : src.szOk sz = true) (hC2 : ∀ c ∈ src.okC sz, c) (hsz : 0 < sz) (hy : Gv (st.as.ev y) v.av) :
    SrcOk st.as sz (st.as.ev y) src.len src.pvs := by
  unfold srcF at h
  split at h
  · next l =>
    cases h
    have e := nat_eq hs; subst e
    exact SrcOk.sl hy (by simp [SrcE.len, SrcE.pvs]) hsz
  · next m z f =>
    cases h
    have e := nat_eq hs; subst e
    exact SrcOk.sl (cells := lzC m z f) (by have h3 := hy; unfold EV.av EV.pv at h3; exact h3) (lz_len m z f) hsz
  · next l m =>
    cases h
    have e := hC2 (l.length = m * sz) (by simp [SrcE.okC])
    exact SrcOk.sl hy ((pvL_length l).trans e) hsz
  · cases h; exact SrcOk.nil hy
  · next r m =>
    split at h
    · next l t pub hb =>
      cases h
      have e := nat_eq hs; subst e
      have e2 : m = l.length := hC (m = l.length) (by simp)
      subst e2
      exact SrcOk.osl hy (S.ob hb (by simp)) (by simp [SrcE.len, SrcE.pvs]) hsz
    · next m' z f t pub hb =>
      cases h
      have e := nat_eq hs; subst e
      have e2 : m = m' := hC (m = m') (by simp)
      subst e2
      exact SrcOk.osl hy (S.ob hb (by simp)) (lz_len m z f).symm hsz
    · next l t z pub hb =>
      cases hz : Nat.beq z sz with
      | false => rw [hz] at h; cases h
      | true =>
      rw [hz] at h; cases h
      have e1 := nat_eq hz; subst e1
      have e := hC2 (l.length = m * z) (by simp [SrcE.okC])
      exact SrcOk.osl hy (S.ob hb (by simp)) ((pvL_length l).trans e).symm hsz
    · cases h
  · cases h
theorem joinF_ok {e : TypeId} {sz pub : Nat} {eb eb' : EB} {src : SrcE} (h : joinF e sz pub eb src = some eb') (hk : eb.okSz sz e = true) (hs : src.szOk sz = true) (hC2 : ∀ c ∈ src.okC sz, c) : eb'.ob = .row (eb.pvs ++ src.pvs) e sz pub ∧ eb.ob = .row eb.pvs e sz eb.pub := by
  unfold joinF at h
  split at h
  · next l t p m =>
    cases h
    simp only [EB.okSz, Bool.and_eq_true] at hk
    have e1 := nat_eq hk.1; have e2 := nat_eq hk.2; subst e1 e2
    exact ⟨by simp [EB.ob, EB.pvs, SrcE.pvs], rfl⟩
  · next l t p c m =>
    split at h
    · next q hq =>
      cases h
      simp only [EB.okSz, Bool.and_eq_true] at hk
      have e1 := nat_eq hk.1; have e2 := nat_eq hk.2; subst e1 e2
      exact ⟨by simp [EB.ob, EB.pvs, SrcE.pvs, (u8sE_ok hq).1], rfl⟩
    · cases h
  · next l t z p m k =>
    cases h
    simp only [EB.okSz, Bool.and_eq_true] at hk
    have e1 := nat_eq hk.1; have e2 := nat_eq hk.2; subst e1 e2
    exact ⟨by simp [EB.ob, EB.pvs, SrcE.pvs, pvL_append], rfl⟩
  · next n' z f t p m k =>
    cases hc : Nat.beq z sz with
    | false => rw [hc] at h; cases h
    | true =>
      rw [hc] at h; cases h
      simp only [EB.okSz, Bool.and_eq_true] at hk
      have e1 := nat_eq hk.1; have e2 := nat_eq hk.2; subst e1 e2
      have e3 := hC2 (m.length = k * z) (by simp [SrcE.okC])
      refine ⟨?_, rfl⟩
      show OB.row (lzC (n' + k) z _) t z pub = OB.row (lzC n' z f ++ pvL m) t z pub
      rw [lzC_add, ← lzC_of k z m e3]
      congr 2
      · exact lzC_ext fun i hi j hj => by rw [show Nat.blt i n' = true from (Nat.blt_eq).mpr hi]; rfl
      · exact lzC_ext fun i hi j hj => by
          have : Nat.blt (n' + i) n' = false := by
            cases hb : Nat.blt (n' + i) n' with
            | false => rfl
            | true => rw [Nat.blt_eq] at hb; omega
          rw [this, show n' + i - n' = i from by omega]; rfl
  · next n' z f t p k z2 g =>
    cases hc : Nat.beq z sz && Nat.beq z2 sz with
    | false => rw [hc] at h; cases h
    | true =>
      rw [hc] at h; cases h
      simp only [Bool.and_eq_true] at hc
      simp only [EB.okSz, Bool.and_eq_true] at hk
      have e1 := nat_eq hk.1; have e2 := nat_eq hk.2; have e3 := nat_eq hc.2; subst e1 e2 e3
      refine ⟨?_, rfl⟩
      show OB.row (lzC (n' + k) z2 _) t z2 pub = OB.row (lzC n' z2 f ++ lzC k z2 g) t z2 pub
      rw [lzC_add]
      congr 2
      · exact lzC_ext fun i hi j hj => by rw [show Nat.blt i n' = true from (Nat.blt_eq).mpr hi]; rfl
      · exact lzC_ext fun i hi j hj => by
          have : Nat.blt (n' + i) n' = false := by
            cases hb : Nat.blt (n' + i) n' with
            | false => rfl
            | true => rw [Nat.blt_eq] at hb; omega
          rw [this, show n' + i - n' = i from by omega]; rfl
  · next l t z p k z2 g =>
    split at h
    · next q hq =>
      cases hc : Nat.beq z2 sz && Nat.blt 0 sz with
      | false => rw [hc] at h; cases h
      | true =>
        rw [hc] at h; cases h
        simp only [Bool.and_eq_true] at hc
        simp only [EB.okSz, Bool.and_eq_true] at hk
        have e1 := nat_eq hk.1; have e2 := nat_eq hk.2; have e3 := nat_eq hc.1; subst e1 e2 e3
        have hz : 0 < z2 := by have := hc.2; rwa [Nat.blt_eq] at this
        have e4 : l.length = q * z2 := by have := grpE_ok hz (by omega) hq; omega
        refine ⟨?_, rfl⟩
        show OB.row (lzC (q + k) z2 _) t z2 pub = OB.row (pvL l ++ lzC k z2 g) t z2 pub
        rw [lzC_add, ← lzC_of q z2 l e4]
        congr 2
        · exact lzC_ext fun i hi j hj => by rw [show Nat.blt i q = true from (Nat.blt_eq).mpr hi]; rfl
        · exact lzC_ext fun i hi j hj => by
            have : Nat.blt (q + i) q = false := by
              cases hb : Nat.blt (q + i) q with
              | false => rfl
              | true => rw [Nat.blt_eq] at hb; omega
            rw [this, show q + i - q = i from by omega]; rfl
    · cases h
  · cases h
theorem newF_ok {e : TypeId} {sz : Nat} {src : SrcE} (hs : src.szOk sz = true) : (newF e sz src).ob = .row src.pvs e sz 0 := by
  cases src with
  | by_ l => have e1 := nat_eq hs; subst e1; rfl
  | lz m z f => have e1 := nat_eq hs; subst e1; rfl
  | cs l m => rfl
/-- An append to a nil slice. -/
theorem S_appendNil {st : AS} {T e : TypeId} {x y : Operand} {sz bytes m : Nat} {news : List PV} {z : List Value} (r' r0 : Nat) (hx : Gv (st.ev x) (.p (.v (.slice none 0 0))))
    (hs : SrcOk st sz (st.ev y) m news) (hT : apOf P T = some (e, sz, bytes, z)) (hsz : 0 < sz) (hb : m * bytes ≤ 140737488355328) (hm : m ≤ 140737488355328) (hf : st.free kp r' = true) (hf0 : st.free kp r0 = true) (hne : r0 ≠ r') (hd : Nat.blt d n = true) :
    Step P E kp n ops ⟨some d, .call { callee := .builtin .append, args := #[x, y], argTypes := #[T, T] }, ty, ps, af, none⟩ st ⟨(d, .osl r' m) :: st.slots, (r', .row news e sz 0) :: st.heap⟩ := by
  refine Step.val rfl fun a w ⟨φ, Pub, I, h0, hnn, hsl⟩ => ?_
  obtain ⟨f1, f2, f3, f4⟩ := free_split hf
  obtain ⟨g1, g2, g3, g4⟩ := free_split hf0
  obtain ⟨i, v, t1, t2, t3, t4, t5, t6, t7⟩ := ap_of hT
  obtain ⟨ad, c, vs, e1, c1, c2⟩ := hs E kp φ Pub w _ I (ev_R (h := st.heap) hsl y)
  have I0 := I.nilRow g1 g2 g4 e sz 0
  have hu : RA w Pub (fun q => if q = r0 then none else φ q) (.osl r0 0) (a.eval x) := by
    unfold RA; exact .inr ⟨if_pos rfl, rfl, hx.v (ev_R (h := st.heap) hsl x)⟩
  have hl0 : look OB.dead ((r0, OB.row [] e sz 0) :: st.heap) r0 = .row [] e sz 0 := by rw [look_cons, if_pos rfl]
  obtain ⟨v', w', g, hr, I', hR, H⟩ := I0.append (P := P) (r' := r') hl0 hu (by simp) (by rw [look_cons, if_neg hne]; exact f1) (by simp only [hHas, OB.has, Bool.false_or]; exact f2) f4 T ty i v bytes t1 t2 t3 t4 t5 t6 hsz ad m c vs c1 c2 (by unfold maxLen; omega) (by simpa using hb)
  refine ⟨v', w', ?_, ?_⟩
  · simp only [execOp, resolve, invoke, builtin, Sem.run_bind, Sem.run_pure, Result.andThen_ok, List.map_toArray, List.map_cons, List.map_nil, e1, hr]
  · have k := Sat.put I' h0 hnn (fun s => RA_rename H (look_sHas f3) (RA_rename (r := r0) (g := none) (Adv.refl _ _) (look_sHas g3) (hsl s))) hd hR
    refine k.congr (fun s => ?_) (fun r => ?_)
    · show look AV.any ((d, .osl r' m) :: st.slots) s = look AV.any ((d, .osl r' (0 + m)) :: st.slots) s
      rw [Nat.zero_add]
    · show look OB.dead ((r', OB.row news e sz 0) :: st.heap) r = look OB.dead ((r', OB.row ([] ++ news) e sz 0) :: (r0, .dead) :: (r0, .row [] e sz 0) :: st.heap) r
      rw [List.nil_append, look_cons, look_cons]
      split
      · rfl
      · rw [look_cons]
        split
        · next e2 => subst e2; cases hz : look OB.dead st.heap r0 <;> rw [hz] at g1 <;> first | rfl | cases g1
        · next e2 => rw [look_cons, if_neg e2]
theorem toL_ok {n q : Nat} {x : EV} {ns : List Nat} (h : isL0 x) (hn : n < ns.length) {w : World} {Pub : Nat → Nat → Prop} {φ : Ghost} {u : Value} (k : RA w Pub (loc φ [q]) x.av u) : RA w Pub (loc φ (ns.set n q)) (toL n x).av u := by
  cases x
  case osl j m =>
    have hj : j = 0 := h
    subst hj
    have e1 : loc φ [q] 0 = φ q := loc_get rfl
    have e2 : loc φ (ns.set n q) n = φ q := loc_get (by rw [List.getElem?_set_self hn])
    unfold toL
    unfold EV.av RA at k ⊢
    rw [e1] at k
    rw [e2]; exact k
  all_goals exact (av_pv _ u h).2 ((av_pv _ u h).1 k)
theorem raJ_add {n sz : Nat} {f g : Nat → Nat → EV} : avC (n + 1) sz (raJ n f g) = avC n sz f ++ avC 1 sz (fun a b => toL n (g a b)) := by
  unfold avC
  rw [List.range_succ, List.flatMap_append]
  congr 1
  · exact flat_congr fun i hi j _ => by unfold raJ; rw [show Nat.blt i n = true from Nat.blt_eq.mpr hi]; rfl
  · simp only [List.flatMap_cons, List.flatMap_nil, List.append_nil, List.range_one]
    refine List.map_congr_left fun j _ => ?_
    have : Nat.blt n n = false := by
      cases hb : Nat.blt n n with
      | false => rfl
      | true => rw [Nat.blt_eq] at hb; omega
    unfold raJ; rw [this]; rfl
theorem raA_ok {T e : TypeId} {x y : Operand} {sz by_ : Nat} {z : List Value} {u v : EV} {R : RS} (S : Sub vs bs st) (h : raA bs d e sz u v = some R) (hC : ∀ c ∈ R.C, c) (hf : ∀ p ∈ R.hp, (ob_ bs p.1).alive = true ∨ st.free kp p.1 = true) (hnd : (ob_ bs (nmB d)).alive = false)
    (hd : Nat.blt d n = true) (hT : apOf P T = some (e, sz, by_, z)) (hsz : 0 < sz) (hby : by_ ≤ 10000) (hx : Gv (st.as.ev x) u.av) (hy : Gv (st.as.ev y) v.av) :
    Step P E kp n ops ⟨some d, .call { callee := .builtin .append, args := #[x, y], argTypes := #[T, T] }, ty, ps, af, none⟩ st.as (R.app st).as := by
  unfold raA at h
  split at h
  · next r m =>
    split at h
    · next r2 m2 =>
      split at h
      · next k z1 f t ns hb =>
        split at h
        · next n2 z2 f2 t2 ns2 hb2 =>
          split at h
          · next q =>
            obtain ⟨hc, h⟩ := bif_some h
            cases h
            simp only [Bool.and_eq_true, Nat.blt_eq, Bool.not_eq_true'] at hc
            obtain ⟨⟨⟨⟨⟨⟨c1, c2⟩, c3⟩, c4⟩, c5⟩, c6⟩, c7⟩ := hc
            have e1 := nat_eq c1; have e2 := nat_eq c2; have e3 := nat_eq c3; have e4 := nat_eq c4; have e5 := nat_eq c5; subst e1 e2 e3 e4 e5
            have hm := hC (m = k) (by simp)
            have hk := hC (k ≤ 1000000) (by simp)
            have hno := hC (∀ a, a < k → ∀ b, b < z2 → noL k (f a b)) (by simp)
            have hl0 := hC (∀ b, b < z2 → isL0 (f2 0 b)) (by simp)
            subst hm
            have hfr : st.free kp (nmB d) = true := by
              rcases hf (nmB d, _) (List.mem_cons_self ..) with k | k
              · rw [hnd] at k; cases k
              · exact k
            refine (S_appendRa (cells := avC m z2 f) (cells2 := avC 1 z2 f2) (news := avC 1 z2 fun a b => toL m (f2 a b)) (ns' := ns.set m q) (nmB d) hd hx (S.ob hb (by simp)) (fl_len _ _ _).symm hy (S.ob hb2 (by simp)) (fl_len _ _ _) (by omega) hT hsz (by
                have : (m + 1) * by_ ≤ 1000001 * 10000 := Nat.mul_le_mul (by omega) hby
                omega) (by omega) (by rw [as_free]; exact hfr) c7 (fun w Pub φ vs k => flat_imp (fun i hi j hj u k => noL_ok (hno i hi j hj) k) k) (fun w Pub φ vs k => flat_imp (fun i hi j hj u k => by
                obtain rfl : i = 0 := by omega
                exact toL_ok (hl0 j hj) c6 k) k)).cast ?_
            rw [← raJ_add]; rfl
          · cases h
        · cases h
      · cases h
    · cases h
  · cases h
theorem appendF_ok {T : TypeId} {x y : Operand} {u v : EV} {R : RS} (hP : tab.ok P) (S : Sub vs bs st) (h : appendF tab bs d T u v = some R) (hC : ∀ c ∈ R.C, c) (hf : ∀ p ∈ R.hp, (ob_ bs p.1).alive = true ∨ st.free kp p.1 = true) (hnd : (ob_ bs (nmB d)).alive = false) (hnz : (ob_ bs (nmZ d)).alive = false)
    (hd : Nat.blt d n = true) (hx : Gv (st.as.ev x) u.av) (hy : Gv (st.as.ev y) v.av) :
    Step P E kp n ops ⟨some d, .call { callee := .builtin .append, args := #[x, y], argTypes := #[T, T] }, ty, ps, af, none⟩ st.as (R.app st).as := by
  unfold appendF at h
  split at h
  · next e sz by_ z _ _ _ _ hti =>
    obtain ⟨_, _, hT, hsz, hz⟩ := (TT.find_ok hP hti).sl e sz by_ z rfl
    cases hc : Nat.ble by_ 10000 && Nat.ble 1 sz with
    | false => rw [hc] at h; cases h
    | true =>
      rw [hc] at h
      simp only [cond_true] at h
      simp only [Bool.and_eq_true, Nat.ble_eq] at hc
      split at h
      · next C src hsrc =>
        cases hs : src.szOk sz with
        | false => rw [hs] at h; cases h
        | true =>
          rw [hs] at h
          simp only [cond_true] at h
          split at h
          · next r m =>
            cases hk : (ob_ bs r).okSz sz e with
            | false => rw [hk] at h; cases h
            | true =>
              rw [hk] at h
              simp only [cond_true] at h
              split at h
              · next eb hj =>
                cases h
                have hC1 : ∀ c ∈ C, c := fun c hc => hC c (List.mem_append_left _ hc)
                have hC2 : ∀ c ∈ src.okC sz, c := fun c hc => hC c (List.mem_append_right _ (List.mem_append_left _ hc))
                have hC3 : ∀ c ∈ (ob_ bs r).lenC sz m, c := fun c hc => hC c (List.mem_append_right _ (List.mem_append_right _ (List.mem_append_left _ hc)))
                have hC4 : m + src.len ≤ 1000000000 := hC _ (List.mem_append_right _ (List.mem_append_right _ (List.mem_append_right _ (List.mem_singleton.2 rfl))))
                obtain ⟨j1, j2⟩ := joinF_ok hj hk hs hC2
                have hl : st.as.ob r = .row (ob_ bs r).pvs e sz (ob_ bs r).pub := by
                  rw [S.ob rfl (by intro e2; rw [e2] at hk; cases hk), j2]
                have hn : m * sz = (ob_ bs r).pvs.length := by
                  cases hq : ob_ bs r with
                  | rb l t p =>
                    rw [hq] at hC3 hk
                    simp only [EB.okSz, Bool.and_eq_true] at hk
                    have e1 := nat_eq hk.1; subst e1
                    have := hC3 (m = l.length) (by simp [EB.lenC])
                    simp [EB.pvs, this]
                  | rz m' z' f t p =>
                    rw [hq] at hC3 hk
                    simp only [EB.okSz, Bool.and_eq_true] at hk
                    have e1 := nat_eq hk.1; subst e1
                    have := hC3 (m = m') (by simp [EB.lenC])
                    rw [this]; exact (lz_len m' z' f).symm
                  | row l t z' p =>
                    rw [hq] at hC3 hk
                    have := hC3 (m * sz = l.length) (by simp [EB.lenC])
                    simp [EB.pvs, this, pvL_length]
                  | box _ _ => rw [hq] at hk; cases hk
                  | mp _ => rw [hq] at hk; cases hk
                  | it _ _ _ _ => rw [hq] at hk; cases hk
                  | dead => rw [hq] at hk; cases hk
                  | bz _ _ _ => rw [hq] at hk; cases hk
                  | ra _ _ _ _ _ => rw [hq] at hk; cases hk
                have hfr : st.free kp (nmB d) = true := by
                  rcases hf (nmB d, eb) (by simp) with k | k
                  · rw [hnd] at k; cases k
                  · exact k
                refine (S_append (nmB d) hx hl hn (srcF_ok S hsrc hC1 hs hC2 hsz hy) hT hsz (by
                  have : (m + src.len) * by_ ≤ 1000000000 * 10000 := Nat.mul_le_mul hC4 hc.1
                  omega) (by omega) (by rw [as_free]; exact hfr) hd).cast ?_
                rw [← j1]; rfl
              · cases h
          · cases h
            have hC1 : ∀ c ∈ C, c := fun c hc => hC c (List.mem_append_left _ hc)
            have hC2 : ∀ c ∈ src.okC sz, c := fun c hc => hC c (List.mem_append_right _ (List.mem_append_left _ hc))
            have hC4 : src.len ≤ 1000000000 := hC _ (List.mem_append_right _ (List.mem_append_right _ (List.mem_singleton.2 rfl)))
            have hfr : st.free kp (nmB d) = true := by
              rcases hf (nmB d, newF e sz src) (by simp) with k | k
              · rw [hnd] at k; cases k
              · exact k
            have hfz : st.free kp (nmZ d) = true := by
              rcases hf (nmZ d, .dead) (by simp) with k | k
              · rw [hnz] at k; cases k
              · exact k
            refine (S_appendNil (nmB d) (nmZ d) hx (srcF_ok S hsrc hC1 hs hC2 hsz hy) hT hsz (by
                  have : src.len * by_ ≤ 1000000000 * 10000 := Nat.mul_le_mul hC4 hc.1
                  omega) (by omega) (by rw [as_free]; exact hfr) (by rw [as_free]; exact hfz) (by unfold nmZ nmB; omega) hd).wk ?_
            intro a w hsat
            refine Sat.congr (st := AS.mk ((d, .osl (nmB d) src.len) :: st.as.slots) ((nmB d, .row src.pvs e sz 0) :: st.as.heap)) (fun s => rfl) (fun r => ?_) hsat
            show look OB.dead ((nmB d, (newF e sz src).ob) :: (nmZ d, .dead) :: obs st.heap) r = look OB.dead ((nmB d, .row src.pvs e sz 0) :: obs st.heap) r
            rw [newF_ok hs]
            by_cases e1 : nmB d = r
            · rw [look_cons, if_pos e1, look_cons, if_pos e1]
            · rw [look_cons, if_neg e1, look_cons]
              rw [look_cons, if_neg e1]
              split
              · next e2 =>
                subst e2
                have := (free_split (st := st.as) (kp := kp) (r := nmZ d) (by rw [as_free]; exact hfz)).1
                have h2 : look OB.dead (obs st.heap) (nmZ d) = look OB.dead st.as.heap (nmZ d) := rfl
                rw [h2]
                cases hz : look OB.dead st.as.heap (nmZ d) <;> rw [hz] at this <;> first | rfl | cases this
              · rfl
          · cases h
      · exact raA_ok S h hC hf hnd hd hT hsz hc.1 hx hy
  · cases h
end
end Go.Proofs.YtcebndkiagbddaaGreatDoor

