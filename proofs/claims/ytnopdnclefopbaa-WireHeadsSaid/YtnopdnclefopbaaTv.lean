/- Typed values over the values without addresses (XAbs): what the walk by computation works on. It names no function of the program. -/
import Derived.Test.YtnopdnclefopbaaAbsLate
import Derived.Test.YtnopdnclefopbaaAbsCopy
import Derived.Test.YtnopdnclefopbaaAbsCallH
import Derived.Test.YtnopdnclefopbaaAbsArr
namespace Go.Proofs.Ytnopdnclefopbaa
open Go.RowKit
set_option linter.unusedVariables false
set_option linter.unusedSimpArgs false

theorem bif_some {α : Type} {c : Bool} {a : Option α} {b : α} (h : (bif c then a else none) = some b) : c = true ∧ a = some b := by
  cases c with
  | false => cases h
  | true => exact ⟨rfl, h⟩

inductive EV where
  | v (x : Value)
  | u8 (c : UInt8)
  | u32 (c : UInt32)
  | u64 (c : UInt64)
  | az (n : Nat) (f : Nat → EV)
  | bs (l : List UInt8)
  | lz (n sz : Nat) (f : Nat → Nat → EV)
  | agg (l : List EV)
  | tup (l : List EV)
  | pp (cells : List EV) (off : Nat)
  | pb (l : List UInt8) (i : Nat)
  | pz (n sz : Nat) (f : Nat → Nat → EV) (i off : Nat)
  | raw (x : PV)
  | sl (cells : List EV) (n : Nat)
  | po (r sz i off : Nat)
  | own (r off : Nat)
  | osl (r n : Nat)
  | cnd (g : Bool) (x : EV)
  | any
abbrev EV.i (n : Int) : EV := .v (.int .i64 n)
abbrev EV.b (g : Bool) : EV := .v (.bool g)
abbrev EV.s (l : List UInt8) : EV := .v (.string ⟨⟨l⟩⟩)
abbrev EV.nil : EV := .v (.slice none 0 0)
abbrev u32P (c : UInt32) : PV := .v (.int .u32 (c.toNat : Int))
abbrev u64P (c : UInt64) : PV := .v (.int .u64 (c.toNat : Int))

mutual
def EV.pv : EV → PV
  | .v x => .v x
  | .u8 c => b8P c
  | .u32 c => u32P c
  | .u64 c => u64P c
  | .az n f => .agg ((List.range n).map fun i => (f i).pv)
  | .bs l => bytesP l
  | .lz n sz f => .sl ((List.range n).flatMap fun i => (List.range sz).map fun j => (f i j).pv) n
  | .agg l => .agg (pvL l)
  | .tup l => .tup (pvL l)
  | .pp cells off => .pp (pvL cells) off
  | .pb l i => .pp (l.map b8P) i
  | .pz n sz f i off => .pp ((List.range n).flatMap fun i => (List.range sz).map fun j => (f i j).pv) (i * sz + off)
  | .raw x => x
  | .sl cells n => .sl (pvL cells) n
  | .po _ _ _ _ => .v undef
  | .own _ _ => .v undef
  | .osl _ _ => .v undef
  | .cnd _ _ => .v undef
  | .any => .v undef
def pvL : List EV → List PV
  | [] => []
  | x :: xs => EV.pv x :: pvL xs
end
mutual
def EV.av : EV → AV
  | .agg l => .agg (avL l)
  | .tup l => .tup (avL l)
  | .own r off => .own r off
  | .osl r n => .osl r n
  | .cnd g x => .cnd g x.av
  | .any => .any
  | .v x => .p (.v x)
  | .u8 c => .p (b8P c)
  | .u32 c => .p (u32P c)
  | .u64 c => .p (u64P c)
  | .az n f => .p (EV.pv (.az n f))
  | .bs l => .p (bytesP l)
  | .lz n sz f => .p (EV.pv (.lz n sz f))
  | .pp cells off => .p (.pp (pvL cells) off)
  | .pb l i => .p (.pp (l.map b8P) i)
  | .pz n sz f i off => .p (EV.pv (.pz n sz f i off))
  | .raw x => .p x
  | .sl cells n => .p (.sl (pvL cells) n)
  | .po r sz i off => .own r (i * sz + off)
def avL : List EV → List AV
  | [] => []
  | x :: xs => EV.av x :: avL xs
end
theorem pvL_map : ∀ l : List EV, pvL l = l.map EV.pv
  | [] => rfl
  | x :: xs => by simp [pvL, pvL_map xs]
theorem avL_map : ∀ l : List EV, avL l = l.map EV.av
  | [] => rfl
  | x :: xs => by simp [avL, avL_map xs]

/-- A block of the call's own. -/
inductive EB where
  | box (cells : List EV) (t : TypeId)
  | rb (l : List UInt8) (t : TypeId) (pub : Nat)
  | row (cells : List EV) (t : TypeId) (sz pub : Nat)
  | rz (n sz : Nat) (f : Nat → Nat → EV) (t : TypeId) (pub : Nat)
  | bz (n : Nat) (f : Nat → EV) (t : TypeId)
  | dead
def EB.ob : EB → OB
  | .box cells t => .box (avL cells) t
  | .rb l t pub => .row (l.map b8P) t 1 pub
  | .row cells t sz pub => .row (pvL cells) t sz pub
  | .rz n sz f t pub => .row ((List.range n).flatMap fun i => (List.range sz).map fun j => (f i j).pv) t sz pub
  | .bz n f t => .box (((List.range n).map fun i => (f i).pv).map AV.p) t
  | .dead => .dead

structure ES where
  slots : List (Nat × EV)
  heap : List (Nat × EB)
def avs : List (Nat × EV) → List (Nat × AV)
  | [] => []
  | p :: l => (p.1, p.2.av) :: avs l
def obs : List (Nat × EB) → List (Nat × OB)
  | [] => []
  | p :: l => (p.1, p.2.ob) :: obs l
def ES.as (st : ES) : AS := ⟨avs st.slots, obs st.heap⟩
theorem look_avs : ∀ (l : List (Nat × EV)) (s : Nat), look AV.any (avs l) s = (look EV.any l s).av
  | [], s => by simp [avs, look, EV.av]
  | (k, x) :: l, s => by
    simp only [avs, look]
    cases Nat.beq k s with
    | true => rfl
    | false => exact look_avs l s
theorem look_obs : ∀ (l : List (Nat × EB)) (s : Nat), look OB.dead (obs l) s = (look EB.dead l s).ob
  | [], s => rfl
  | (k, x) :: l, s => by
    simp only [obs, look]
    cases Nat.beq k s with
    | true => rfl
    | false => exact look_obs l s
theorem avs_app (l m : List (Nat × EV)) : avs (l ++ m) = avs l ++ avs m := by
  induction l with
  | nil => rfl
  | cons x l ih => simp [avs, ih]
theorem obs_app (l m : List (Nat × EB)) : obs (l ++ m) = obs l ++ obs m := by
  induction l with
  | nil => rfl
  | cons x l ih => simp [obs, ih]
def evOf (sl : List (Nat × EV)) : Operand → EV
  | .tmp t => look .any sl t
  | .const c => .v c
  | .func f => .v (.func (.func f) #[] #[])
  | .global _ => .any
def ES.ev (st : ES) (x : Operand) : EV := evOf st.slots x
def ES.eb (st : ES) (r : Nat) : EB := look .dead st.heap r
theorem as_ev (st : ES) (x : Operand) : st.as.ev x = (st.ev x).av := by
  cases x with
  | tmp t => exact look_avs _ _
  | const c => simp [AS.ev, ES.ev, evOf, EV.av]
  | func f => simp [AS.ev, ES.ev, evOf, EV.av]
  | global g => simp [AS.ev, ES.ev, evOf, EV.av]
theorem as_ob (st : ES) (r : Nat) : st.as.ob r = (st.eb r).ob := look_obs _ _

mutual
def EV.has (r : Nat) : EV → Bool
  | .agg l => hasE r l
  | .tup l => hasE r l
  | .own q _ => Nat.beq q r
  | .osl q _ => Nat.beq q r
  | .cnd _ x => EV.has r x
  | .v _ => false
  | .u8 _ => false
  | .u32 _ => false
  | .u64 _ => false
  | .az _ _ => false
  | .bs _ => false
  | .lz _ _ _ => false
  | .pp _ _ => false
  | .pb _ _ => false
  | .pz _ _ _ _ _ => false
  | .raw _ => false
  | .sl _ _ => false
  | .po q _ _ _ => Nat.beq q r
  | .any => false
def hasE (r : Nat) : List EV → Bool
  | [] => false
  | x :: xs => EV.has r x || hasE r xs
end
mutual
theorem has_av (r : Nat) : ∀ x : EV, x.av.has r = x.has r
  | .agg l => by simp only [EV.av, AV.has, EV.has]; exact has_avL r l
  | .tup l => by simp only [EV.av, AV.has, EV.has]; exact has_avL r l
  | .own q _ => by simp only [EV.av, AV.has, EV.has]
  | .osl q _ => by simp only [EV.av, AV.has, EV.has]
  | .cnd _ x => by simp only [EV.av, AV.has, EV.has]; exact has_av r x
  | .v _ => by simp only [EV.av, AV.has, EV.has]
  | .u8 _ => by simp only [EV.av, AV.has, EV.has]
  | .u32 _ => by simp only [EV.av, AV.has, EV.has]
  | .u64 _ => by simp only [EV.av, AV.has, EV.has]
  | .az _ _ => by simp only [EV.av, AV.has, EV.has]
  | .bs _ => by simp only [EV.av, AV.has, EV.has]
  | .lz _ _ _ => by simp only [EV.av, AV.has, EV.has]
  | .pp _ _ => by simp only [EV.av, AV.has, EV.has]
  | .pb _ _ => by simp only [EV.av, AV.has, EV.has]
  | .pz _ _ _ _ _ => by simp only [EV.av, AV.has, EV.has]
  | .raw _ => by simp only [EV.av, AV.has, EV.has]
  | .sl _ _ => by simp only [EV.av, AV.has, EV.has]
  | .po _ _ _ _ => by simp only [EV.av, AV.has, EV.has]
  | .any => by simp only [EV.av, AV.has, EV.has]
theorem has_avL (r : Nat) : ∀ l : List EV, hasL r (avL l) = hasE r l
  | [] => rfl
  | x :: xs => by simp only [avL, hasL, hasE]; rw [has_av r x, has_avL r xs]
end
def EB.has (r : Nat) : EB → Bool
  | .box cells _ => hasE r cells
  | _ => false
theorem hasL_mapP (r : Nat) : ∀ l : List PV, hasL r (l.map AV.p) = false
  | [] => rfl
  | x :: xs => by simp only [List.map_cons, hasL, AV.has, Bool.false_or]; exact hasL_mapP r xs
theorem has_ob (r : Nat) (x : EB) : x.ob.has r = x.has r := by
  cases x <;> simp only [EB.ob, OB.has, EB.has, has_avL, hasL_mapP]
def EB.alive : EB → Bool
  | .dead => false
  | _ => true
theorem alive_ob (x : EB) : x.ob.alive = x.alive := by cases x <;> rfl
def hasH (r : Nat) : List (Nat × EB) → Bool
  | [] => false
  | p :: h => p.2.has r || hasH r h
def hasS (r : Nat) : List (Nat × EV) → Bool
  | [] => false
  | p :: h => p.2.has r || hasS r h
theorem hasH_obs (r : Nat) : ∀ h : List (Nat × EB), hHas r (obs h) = hasH r h
  | [] => rfl
  | p :: h => by simp only [obs, hHas, hasH]; rw [has_ob, hasH_obs r h]
theorem hasS_avs (r : Nat) : ∀ h : List (Nat × EV), sHas r (avs h) = hasS r h
  | [] => rfl
  | p :: h => by simp only [avs, sHas, hasS]; rw [has_av, hasS_avs r h]
def ES.free (st : ES) (kp : List Nat) (r : Nat) : Bool := !(look EB.dead st.heap r).alive && !hasH r st.heap && !hasS r st.slots && !memN r kp
theorem memN_contains (r : Nat) : ∀ l : List Nat, memN r l = l.contains r
  | [] => rfl
  | x :: l => by
    simp only [memN, List.contains_cons, memN_contains r l]
    congr 1
    rw [Bool.eq_iff_iff]; simp
theorem as_free (st : ES) (kp : List Nat) (r : Nat) : st.as.free kp r = st.free kp r := by
  unfold AS.free ES.free ES.as
  simp only
  rw [look_obs, alive_ob, hasH_obs, hasS_avs, memN_contains]

/-! ### Elements of a row that is told by a function -/
theorem lz_get (n sz : Nat) (f : Nat → Nat → EV) {i j : Nat} (hi : i < n) (hj : j < sz) :
    ((List.range n).flatMap fun i => (List.range sz).map fun j => (f i j).pv)[i * sz + j]? = some (f i j).pv := by
  induction n with
  | zero => omega
  | succ n ih =>
    rw [List.range_succ, List.flatMap_append]
    have hl : ((List.range n).flatMap fun i => (List.range sz).map fun j => (f i j).pv).length = n * sz := by
      clear ih hi
      induction n with
      | zero => simp
      | succ n ih => rw [List.range_succ, List.flatMap_append, List.length_append, ih]; simp [Nat.succ_mul]
    by_cases h : i < n
    · rw [List.getElem?_append_left (by rw [hl]; calc i * sz + j < i * sz + sz := by omega
                                                  _ = (i + 1) * sz := by rw [Nat.succ_mul]
                                                  _ ≤ n * sz := Nat.mul_le_mul_right _ h)]
      exact ih h
    · obtain rfl : i = n := by omega
      rw [List.getElem?_append_right (by rw [hl]; omega), hl]
      simp [show i * sz + j - i * sz = j from by omega, hj]
theorem lz_len (n sz : Nat) (f : Nat → Nat → EV) : ((List.range n).flatMap fun i => (List.range sz).map fun j => (f i j).pv).length = n * sz := by
  induction n with
  | zero => simp
  | succ n ih => rw [List.range_succ, List.flatMap_append, List.length_append, ih]; simp [Nat.succ_mul]

/-! ### What is a shared value besides -/
theorem Gv.agg' {l : List PV} : Gv (.p (.agg l)) (.agg (l.map .p)) := fun w Pub φ u k => by
  unfold RA at k ⊢
  unfold RP at k
  obtain ⟨vs, e, h⟩ := k
  refine ⟨vs, e, ?_⟩
  clear e
  induction l generalizing vs with
  | nil => unfold RPs at h; simp only [List.map_nil]; unfold RAs; exact h
  | cons x l ih =>
    rw [List.map_cons]
    unfold RPs at h; unfold RAs
    obtain ⟨u, us, e, h1, h2⟩ := h
    exact ⟨u, us, e, by unfold RA; exact h1, ih us h2⟩
mutual
def EV.sh : EV → Bool
  | .agg l => shL l
  | .tup l => shL l
  | .own _ _ => false
  | .po _ _ _ _ => false
  | .osl _ _ => false
  | .cnd _ _ => false
  | .any => false
  | .sl _ _ => true
  | .v _ => true
  | .u8 _ => true
  | .u32 _ => true
  | .u64 _ => true
  | .az _ _ => true
  | .bs _ => true
  | .lz _ _ _ => true
  | .pp _ _ => true
  | .pb _ _ => true
  | .pz _ _ _ _ _ => true
  | .raw _ => true
def shL : List EV → Bool
  | [] => true
  | x :: xs => EV.sh x && shL xs
end
section
variable {w : World} {Pub : Nat → Nat → Prop} {φ : Ghost}
mutual
theorem av_pv : ∀ (x : EV) (u : Value), x.sh = true → (RA w Pub φ x.av u ↔ RP w Pub x.pv u)
  | .agg l, u, h => by
    unfold EV.sh at h
    unfold EV.av EV.pv RA RP
    exact ⟨fun ⟨vs, e, k⟩ => ⟨vs, e, (avL_pvL l vs h).1 k⟩, fun ⟨vs, e, k⟩ => ⟨vs, e, (avL_pvL l vs h).2 k⟩⟩
  | .tup l, u, h => by
    unfold EV.sh at h
    unfold EV.av EV.pv RA RP
    exact ⟨fun ⟨vs, e, k⟩ => ⟨vs, e, (avL_pvL l vs h).1 k⟩, fun ⟨vs, e, k⟩ => ⟨vs, e, (avL_pvL l vs h).2 k⟩⟩
  | .own _ _, _, h => by unfold EV.sh at h; cases h
  | .po _ _ _ _, _, h => by unfold EV.sh at h; cases h
  | .sl _ _, _, _ => by unfold EV.av EV.pv RA; exact Iff.rfl
  | .osl _ _, _, h => by unfold EV.sh at h; cases h
  | .cnd _ _, _, h => by unfold EV.sh at h; cases h
  | .any, _, h => by unfold EV.sh at h; cases h
  | .v _, _, _ => by unfold EV.av EV.pv RA; exact Iff.rfl
  | .u8 _, _, _ => by unfold EV.av EV.pv RA; exact Iff.rfl
  | .u32 _, _, _ => by unfold EV.av EV.pv RA; exact Iff.rfl
  | .u64 _, _, _ => by unfold EV.av EV.pv RA; exact Iff.rfl
  | .az _ _, _, _ => by unfold EV.av RA; exact Iff.rfl
  | .bs _, _, _ => by unfold EV.av EV.pv RA; exact Iff.rfl
  | .lz _ _ _, _, _ => by unfold EV.av RA; exact Iff.rfl
  | .pp _ _, _, _ => by unfold EV.av EV.pv RA; exact Iff.rfl
  | .pb _ _, _, _ => by unfold EV.av EV.pv RA; exact Iff.rfl
  | .pz _ _ _ _ _, _, _ => by unfold EV.av RA; exact Iff.rfl
  | .raw _, _, _ => by unfold EV.av EV.pv RA; exact Iff.rfl
theorem avL_pvL : ∀ (l : List EV) (us : List Value), shL l = true → (RAs w Pub φ (avL l) us ↔ RPs w Pub (pvL l) us)
  | [], us, _ => by unfold avL pvL RAs RPs; exact Iff.rfl
  | x :: xs, us, h => by
    unfold shL at h
    rw [Bool.and_eq_true] at h
    unfold avL pvL RAs RPs
    exact ⟨fun ⟨u, vs, e, k1, k2⟩ => ⟨u, vs, e, (av_pv x u h.1).1 k1, (avL_pvL xs vs h.2).1 k2⟩, fun ⟨u, vs, e, k1, k2⟩ => ⟨u, vs, e, (av_pv x u h.1).2 k1, (avL_pvL xs vs h.2).2 k2⟩⟩
end
end
theorem Gv.sh {x : EV} (h : x.sh = true) : Gv x.av (.p x.pv) := fun w Pub φ u k => by unfold RA; exact (av_pv x u h).1 k
theorem Gv.sh' {x : EV} (h : x.sh = true) : Gv (.p x.pv) x.av := fun w Pub φ u k => by unfold RA at k; exact (av_pv x u h).2 k

/-! ### The types of a program -/
inductive TK where
  | int (k : IntKind) | bool | str
  | sl (e : TypeId) (sz bytes : Nat) (ze : List Value)
  | st (pl : List (Nat × Nat × Bool))
  | ar (n esz : Nat) (e : TypeId)
  | ptr | other
structure TI where
  k : TK
  agg : Bool
  sz : Nat
  ze : Option (List Value)
  ks : Option (List CK) := none
inductive TT where
  | leaf | node (T : Nat) (i : TI) (l r : TT)
def TT.find (T : Nat) : TT → Option TI
  | .leaf => none
  | .node K i l r => bif Nat.beq T K then some i else bif Nat.blt T K then l.find T else r.find T
/-- What a row of the table says is so. -/
structure TIok (P : Program) (T : TypeId) (i : TI) : Prop where
  agg : aggOf P T = some i.agg
  sz : szOf P T = some i.sz
  ze : ∀ z, i.ze = some z → zeOf P T = some z ∧ z.all (·.oneCell') = true
  int : ∀ k, i.k = .int k → P.underlying T = some (.int k)
  ptr : i.k = .ptr → ∃ e, P.underlying T = some (.pointer e)
  ks : ∀ l, i.ks = some l → flatK P 20 T = some l ∧ P.eqGuardType P.depth T = false
  str : i.k = .str → P.underlying T = some .string
  bool : i.k = .bool → P.underlying T = some .bool
  sl : ∀ e sz b z, i.k = .sl e sz b z → P.underlying T = some (.slice e) ∧ slOf P T = some (e, sz) ∧ apOf P T = some (e, sz, b, z) ∧ 0 < sz ∧ z.all (·.oneCell') = true
  st : ∀ pl, i.k = .st pl → plOf P T = some (pl.map fun p => (p.1, p.2.1))
  ar : ∀ n s e, i.k = .ar n s e → arOf P T = some (n, s) ∧ P.underlying T = some (.array n e) ∧ szOf P e = some s
def TT.ok (P : Program) : TT → Prop
  | .leaf => True
  | .node T i l r => TIok P T i ∧ l.ok P ∧ r.ok P
theorem TT.find_ok {P : Program} {T : Nat} {i : TI} : ∀ {t : TT}, t.ok P → t.find T = some i → TIok P T i
  | .leaf, _, h => by cases h
  | .node K j l r, ho, h => by
    unfold TT.ok at ho
    unfold TT.find at h
    cases e : Nat.beq T K with
    | true => rw [e] at h; simp at h; subst h; rw [Nat.eq_of_beq_eq_true e]; exact ho.1
    | false =>
      rw [e] at h
      simp only [cond_false] at h
      cases e2 : Nat.blt T K with
      | true => rw [e2] at h; exact TT.find_ok ho.2.1 h
      | false => rw [e2] at h; exact TT.find_ok ho.2.2 h
end Go.Proofs.Ytnopdnclefopbaa
