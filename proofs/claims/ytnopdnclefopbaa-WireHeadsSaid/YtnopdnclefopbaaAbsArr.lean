/- Arrays as values; structs compared; words turned over; pointers against nil. It names no function of the program. -/
import Derived.Test.YtnopdnclefopbaaAbsCopy
import Derived.Laws.StructEq
import Derived.Laws.Pointers
namespace Go.Proofs.Ytnopdnclefopbaa
open Go.RowKit
set_option linter.unusedVariables false
set_option linter.unusedSimpArgs false

/-! ### Structs compared -/
inductive CK where
  | i (k : IntKind) | b | s
def CK.ok : CK → Value → Prop
  | .i k, .int k' _ => k' = k
  | .b, .bool _ => True
  | .s, .string _ => True
  | _, _ => False
def okL : List CK → List Value → Prop
  | [], [] => True
  | k :: ks, u :: us => k.ok u ∧ okL ks us
  | _, _ => False
def eqCell : Value → Value → Bool
  | .int _ a, .int _ b => a == b
  | .bool a, .bool b => a == b
  | .string a, .string b => a.toList == b.toList
  | _, _ => true
def eqCells : List Value → List Value → Bool
  | a :: as, b :: bs => eqCell a b && eqCells as bs
  | _, _ => true
def flatF (P : Program) (rec : TypeId → Option (List CK)) : List Field → Nat → Option (List CK)
  | [], _ => some []
  | f :: fs, o => if f.name ≠ "_" ∧ f.offset = o then (match rec f.type with
    | some ks => if szOf P f.type = some ks.length then (flatF P rec fs (o + ks.length)).map (ks ++ ·) else none
    | none => none) else none
def flatK (P : Program) : Nat → TypeId → Option (List CK)
  | 0, _ => none
  | d + 1, t => match P.underlying t with
    | some .bool => some [.b]
    | some (.int k) => some [.i k]
    | some .string => some [.s]
    | some (.struct fs) => if P.stoodInHeld t then none else flatF P (flatK P d) fs.toList 0
    | _ => none
theorem okL_length : ∀ {ks : List CK} {us : List Value}, okL ks us → us.length = ks.length
  | [], [], _ => rfl
  | k :: ks, u :: us, h => by simp [okL_length h.2]
  | [], _ :: _, h => by cases h
  | _ :: _, [], h => by cases h
theorem okL_split : ∀ {ks ks' : List CK} {us : List Value}, okL (ks ++ ks') us → okL ks (us.take ks.length) ∧ okL ks' (us.drop ks.length)
  | [], ks', us, h => by simpa [okL] using h
  | k :: ks, ks', u :: us, h => by
    obtain ⟨h1, h2⟩ := okL_split (ks := ks) (ks' := ks') (us := us) h.2
    exact ⟨⟨h.1, h1⟩, h2⟩
  | k :: ks, ks', [], h => by cases h
theorem eqCells_app : ∀ {as bs cs ds : List Value}, as.length = bs.length → eqCells (as ++ cs) (bs ++ ds) = (eqCells as bs && eqCells cs ds)
  | [], [], cs, ds, _ => by simp [eqCells]
  | a :: as, b :: bs, cs, ds, h => by
    simp only [List.cons_append, eqCells, eqCells_app (as := as) (bs := bs) (by simpa using h), Bool.and_assoc]
  | [], _ :: _, _, _, h => by simp at h
  | _ :: _, [], _, _, h => by simp at h
section
variable {P : Program} {w : World}
/-- A value of a type, with these cells. -/
def IsPk (P : Program) (t : TypeId) (us : List Value) (v : Value) : Prop := match aggOf P t with
  | some true => v = .agg us.toArray
  | _ => us = [v]
theorem part_pk {t : TypeId} {ks : List CK} {xs : List Value} {off d : Nat} (hk : flatK P d t = some ks) (hs : szOf P t = some ks.length) (hx : okL ks ((xs.drop off).take ks.length)) :
    ∃ v, (part t xs.toArray off).run P w = .ok v w ∧ IsPk P t ((xs.drop off).take ks.length) v := by
  cases d with
  | zero => simp [flatK] at hk
  | succ d =>
    have hlen := okL_length hx
    have one : ∀ k : CK, ks = [k] → ∃ v, xs[off]? = some v ∧ (xs.drop off).take ks.length = [v] := fun k e => by
      subst e
      simp only [List.length_cons, List.length_nil, Nat.zero_add] at hlen ⊢
      cases hq : xs[off]? with
      | none =>
        rw [List.getElem?_eq_none_iff] at hq
        rw [List.length_take, List.length_drop] at hlen; omega
      | some v =>
        obtain ⟨h1, h2⟩ := List.getElem?_eq_some_iff.1 hq
        refine ⟨v, rfl, ?_⟩
        rw [List.drop_eq_getElem_cons h1, h2]; rfl
    unfold flatK at hk
    cases hu : P.underlying t with
    | none => rw [hu] at hk; cases hk
    | some td =>
      rw [hu] at hk
      have row : td.isRow = false → ∀ k : CK, ks = [k] → ∃ v, (part t xs.toArray off).run P w = .ok v w ∧ IsPk P t ((xs.drop off).take ks.length) v := fun hr k e => by
        obtain ⟨v, h1, h2⟩ := one k e
        have ha : aggOf P t = some false := by unfold aggOf; rw [hu, Option.map_some, hr]
        refine ⟨v, ?_, by unfold IsPk; rw [ha]; exact h2⟩
        unfold part
        rw [Sem.run_bind, run_isAgg ha]
        simp [h1]
      cases td <;> simp only [reduceCtorEq] at hk
      case bool => exact row rfl _ (by cases hk; rfl)
      case int => exact row rfl _ (by cases hk; rfl)
      case string => exact row rfl _ (by cases hk; rfl)
      case struct fs =>
        have ha : aggOf P t = some true := by unfold aggOf; rw [hu]; rfl
        refine ⟨.agg (xs.toArray.extract off (off + ks.length)), ?_, ?_⟩
        · unfold part
          rw [Sem.run_bind, run_isAgg ha]
          simp only [Result.andThen_ok, if_true, Sem.run_bind, run_sizeOf hs, Sem.run_pure]
        · unfold IsPk; rw [ha]
          show Value.agg _ = Value.agg _
          congr 1
          apply Array.ext'
          simp [List.extract_eq_take_drop]
theorem flat_run : ∀ (d : Nat) {t : TypeId} {ks : List CK}, flatK P d t = some ks → ∀ (D : Nat), d ≤ D → ∀ {us vs : List Value} {a b : Value} {w : World}, okL ks us → okL ks vs → IsPk P t us a → IsPk P t vs b →
    (Op.equalIn D t a b).run P w = .ok (eqCells us vs) w
  | 0, t, ks, hk, D, hD, us, vs, a, b, w, hu', hv', ha, hb => by simp [flatK] at hk
  | d + 1, t, ks, hk, D, hD, us, vs, a, b, w, hu', hv', ha, hb => by
    obtain ⟨D, rfl⟩ : ∃ D', D = D' + 1 := ⟨D - 1, by omega⟩
    unfold flatK at hk
    cases hu : P.underlying t with
    | none => rw [hu] at hk; cases hk
    | some td =>
      rw [hu] at hk
      have cell : td.isRow = false → ∀ k : CK, ks = [k] → us = [a] ∧ vs = [b] ∧ k.ok a ∧ k.ok b := fun hr k e => by
        have hg : aggOf P t = some false := by unfold aggOf; rw [hu, Option.map_some, hr]
        unfold IsPk at ha hb
        rw [hg] at ha hb
        subst ha hb e
        exact ⟨rfl, rfl, hu'.1, hv'.1⟩
      cases td <;> simp only [reduceCtorEq] at hk
      case bool =>
        cases hk
        obtain ⟨rfl, rfl, h1, h2⟩ := cell rfl .b rfl
        cases a <;> cases b <;> simp only [CK.ok] at h1 h2
        rw [run_equalIn_bool' w D t _ _ hu]; simp [eqCells, eqCell]
      case int k =>
        cases hk
        obtain ⟨rfl, rfl, h1, h2⟩ := cell rfl (.i k) rfl
        cases a <;> cases b <;> simp only [CK.ok] at h1 h2
        subst h1 h2
        rw [run_equalIn_int w D t _ _ _ _ hu]; simp [eqCells, eqCell]
      case string =>
        cases hk
        obtain ⟨rfl, rfl, h1, h2⟩ := cell rfl .s rfl
        cases a <;> cases b <;> simp only [CK.ok] at h1 h2
        rw [run_equalIn_string w D t _ _ hu]; simp [eqCells, eqCell]
      case struct fs =>
        cases hp : P.stoodInHeld t with
        | true => rw [hp] at hk; simp at hk
        | false =>
          rw [hp] at hk
          simp only [Bool.false_eq_true, if_false] at hk
          have hg : aggOf P t = some true := by unfold aggOf; rw [hu]; rfl
          unfold IsPk at ha hb
          rw [hg] at ha hb
          subst ha hb
          have hfo : P.fieldsOf t = fs := by unfold Program.fieldsOf; rw [hu]
          rw [run_equalIn_struct w D t _ _ (by rw [hfo]; exact hu) hp, hfo]
          have key : ∀ (l : List Field) (o : Nat) (ks : List CK), flatF P (flatK P d) l o = some ks → okL ks (us.drop o) → okL ks (vs.drop o) → (Op.eqFields D us.toArray vs.toArray l).run P w = .ok (eqCells (us.drop o) (vs.drop o)) w := by
            intro l
            induction l with
            | nil =>
              intro o ks h k1 k2
              cases h
              have e1 := okL_length k1
              rw [List.eq_nil_of_length_eq_zero e1]
              simp [Op.eqFields, eqCells]
            | cons f l ih =>
              intro o ks h k1 k2
              unfold flatF at h
              split at h
              · next hn =>
                split at h
                · next kf hf =>
                  split at h
                  · next hz =>
                    cases hq : flatF P (flatK P d) l (o + kf.length) with
                    | none => rw [hq] at h; cases h
                    | some kr =>
                      rw [hq] at h; cases h
                      obtain ⟨a1, a2⟩ := okL_split k1
                      obtain ⟨b1, b2⟩ := okL_split k2
                      rw [List.drop_drop] at a2 b2
                      obtain ⟨va, p1, p2⟩ := part_pk (w := w) (xs := us) (off := o) hf hz a1
                      obtain ⟨vb, q1, q2⟩ := part_pk (w := w) (xs := vs) (off := o) hf hz b1
                      have hr := flat_run d hf D (by omega) (w := w) a1 b1 p2 q2
                      simp only [Op.eqFields, hn.1, ne_eq, not_false_eq_true, if_true, Sem.run_bind, hn.2, p1, q1, hr, Result.andThen_ok]
                      have ec : eqCells (us.drop o) (vs.drop o) = (eqCells ((us.drop o).take kf.length) ((vs.drop o).take kf.length) && eqCells (us.drop (o + kf.length)) (vs.drop (o + kf.length))) := by
                        have l1 := okL_length a1; have l2 := okL_length b1
                        rw [← eqCells_app (by rw [l1, l2]), ← List.drop_drop, ← List.drop_drop, List.take_append_drop, List.take_append_drop]
                      rw [ec]
                      cases eqCells ((us.drop o).take kf.length) ((vs.drop o).take kf.length) with
                      | false => simp
                      | true => simpa using ih (o + kf.length) kr hq a2 b2
                  · cases h
                · cases h
              · cases h
          simpa using key fs.toList 0 ks hk (by simpa using hu') (by simpa using hv')
end
def valsA : List AV → Option (List Value)
  | [] => some []
  | .p (.v u) :: l => (valsA l).map (u :: ·)
  | _ => none
theorem valsA_R {w : World} {Pub : Nat → Nat → Prop} {φ : Ghost} : ∀ {l : List AV} {us vs : List Value}, valsA l = some us → RAs w Pub φ l vs → vs = us
  | [], us, vs, h, k => by cases h; unfold RAs at k; exact k
  | x :: l, us, vs, h, k => by
    unfold RAs at k
    obtain ⟨u, us', rfl, k1, k2⟩ := k
    unfold valsA at h
    split at h
    · next e => cases e
    · next u' l' e =>
      cases e
      cases hq : valsA l with
      | none => rw [hq] at h; cases h
      | some q =>
        rw [hq] at h; cases h
        unfold RA RP at k1
        rw [valsA_R hq k2, k1]
    · cases h
section
variable {P : Program} {E : Env} {kp : List Nat} {n : Nat} {ops : Array Oper} {st : AS} {d : Nat} {ty : TypeId} {ps : String} {af : Array Edge}
theorem S_eqAgg {T T' : TypeId} {x y : Operand} {xs ys : List AV} {us vs : List Value} {ks : List CK} {D : Nat} (hx : Gv (st.ev x) (.agg xs)) (hy : Gv (st.ev y) (.agg ys)) (h1 : valsA xs = some us) (h2 : valsA ys = some vs)
    (hD : D ≤ 10000) (hk : flatK P D T = some ks) (ha : aggOf P T = some true) (hg : P.eqGuardType P.depth T = false) (o1 : okL ks us) (o2 : okL ks vs) (hd : Nat.blt d n = true) :
    Step P E kp n ops ⟨some d, .binOp .eql T x y T', ty, ps, af, none⟩ st (st.put d (.p (.v (.bool (eqCells us vs))))) :=
  S_pure _ rfl rfl hd fun a w φ Pub I hR => by
    have k1 := hx _ _ _ _ (hR x); have k2 := hy _ _ _ _ (hR y)
    unfold RA at k1 k2
    obtain ⟨u, e1, k1⟩ := k1; obtain ⟨v, e2, k2⟩ := k2
    rw [valsA_R h1 k1] at e1; rw [valsA_R h2 k2] at e2
    refine ⟨.bool (eqCells us vs), ?_, by simp [RA, RP]⟩
    have hr := flat_run (w := w) D hk 10000 hD o1 o2 (a := .agg us.toArray) (b := .agg vs.toArray) (by unfold IsPk; rw [ha]) (by unfold IsPk; rw [ha])
    simp only [execOp, e1, e2, Sem.run_bind, run_eqGuard_agg w _ _ _ _ _ _ hg, Result.andThen_ok, run_eql_struct, hr, Sem.run_pure]
theorem S_neAgg {T T' : TypeId} {x y : Operand} {xs ys : List AV} {us vs : List Value} {ks : List CK} {D : Nat} (hx : Gv (st.ev x) (.agg xs)) (hy : Gv (st.ev y) (.agg ys)) (h1 : valsA xs = some us) (h2 : valsA ys = some vs)
    (hD : D ≤ 10000) (hk : flatK P D T = some ks) (ha : aggOf P T = some true) (hg : P.eqGuardType P.depth T = false) (o1 : okL ks us) (o2 : okL ks vs) (hd : Nat.blt d n = true) :
    Step P E kp n ops ⟨some d, .binOp .neq T x y T', ty, ps, af, none⟩ st (st.put d (.p (.v (.bool (!eqCells us vs))))) :=
  S_pure _ rfl rfl hd fun a w φ Pub I hR => by
    have k1 := hx _ _ _ _ (hR x); have k2 := hy _ _ _ _ (hR y)
    unfold RA at k1 k2
    obtain ⟨u, e1, k1⟩ := k1; obtain ⟨v, e2, k2⟩ := k2
    rw [valsA_R h1 k1] at e1; rw [valsA_R h2 k2] at e2
    refine ⟨.bool (!eqCells us vs), ?_, by simp [RA, RP]⟩
    have hr := flat_run (w := w) D hk 10000 hD o1 o2 (a := .agg us.toArray) (b := .agg vs.toArray) (by unfold IsPk; rw [ha]) (by unfold IsPk; rw [ha])
    simp only [execOp, e1, e2, Sem.run_bind, run_eqGuard_agg w _ _ _ _ _ _ hg, Result.andThen_ok, run_neq_struct, hr, Sem.run_pure]

/-! ### Words turned over -/
theorem S_inv {x : Operand} {T : TypeId} {k : IntKind} {i r : Int} (hx : Gv (st.ev x) (.p (.v (.int k i)))) (hr : k.wrap ((BitVec.ofInt k.bits (if k.signed then -1 else k.max) ^^^ BitVec.ofInt k.bits i).toNat : Int) = r) (hd : Nat.blt d n = true) :
    Step P E kp n ops ⟨some d, .unOp .xor T x, ty, ps, af, none⟩ st (st.put d (.p (.v (.int k r)))) :=
  S_pure _ rfl rfl hd fun a w φ Pub I hs => by
    have e1 := hx.v (hs x)
    exact ⟨.int k r, by simp only [execOp, e1, Op.unary, Op.intBits, hr]; simp, by simp [RA, RP]⟩

theorem beqS (l m : List UInt8) : (((⟨l.toArray⟩ : ByteArray).toList == (⟨m.toArray⟩ : ByteArray).toList)) = decide (l = m) := by
  rw [ba_toList, ba_toList, beq_dec]
theorem S_minS {T1 T2 : TypeId} {x y : Operand} {l m : List UInt8} (hx : Gv (st.ev x) (.p (strP l))) (hy : Gv (st.ev y) (.p (strP m))) (hd : Nat.blt d n = true) :
    Step P E kp n ops ⟨some d, .call { callee := .builtin .min, args := #[x, y], argTypes := #[T1, T2] }, ty, ps, af, none⟩ st (st.put d (.p (strP (bif Op.bytesLess l m || decide (l = m) then l else m)))) :=
  S_call_pure _ hd fun a w φ Pub I hR => by
    have e1 := hx.v (hR x)
    have e2 := hy.v (hR y)
    refine ⟨.string ⟨(bif Op.bytesLess l m || decide (l = m) then l else m).toArray⟩, ?_, by simp [RA, RP]⟩
    simp only [builtin, List.map_toArray, List.map_cons, List.map_nil, e1, e2]
    have h : (Builtin.min2 (.string ⟨l.toArray⟩) (.string ⟨m.toArray⟩)).run P w = .ok (.string ⟨(bif Op.bytesLess l m || decide (l = m) then l else m).toArray⟩) w := by
      simp only [Builtin.min2, Op.stringOp, ba_toList, beq_dec]
      cases hq : (Op.bytesLess l m || decide (l = m)) <;> simp [asBool, hq]
    simp only [Builtin.min_, List.foldlM_cons, List.foldlM_nil, Sem.run_bind, h, Result.andThen_ok, Sem.run_pure]
theorem S_maxS {T1 T2 : TypeId} {x y : Operand} {l m : List UInt8} (hx : Gv (st.ev x) (.p (strP l))) (hy : Gv (st.ev y) (.p (strP m))) (hd : Nat.blt d n = true) :
    Step P E kp n ops ⟨some d, .call { callee := .builtin .max, args := #[x, y], argTypes := #[T1, T2] }, ty, ps, af, none⟩ st (st.put d (.p (strP (bif Op.bytesLess l m then m else l)))) :=
  S_call_pure _ hd fun a w φ Pub I hR => by
    have e1 := hx.v (hR x)
    have e2 := hy.v (hR y)
    refine ⟨.string ⟨(bif Op.bytesLess l m then m else l).toArray⟩, ?_, by simp [RA, RP]⟩
    simp only [builtin, List.map_toArray, List.map_cons, List.map_nil, e1, e2]
    have h : (Builtin.max2 (.string ⟨l.toArray⟩) (.string ⟨m.toArray⟩)).run P w = .ok (.string ⟨(bif Op.bytesLess l m then m else l).toArray⟩) w := by
      simp only [Builtin.max2, Op.stringOp, ba_toList, beq_dec]
      cases hq : (Op.bytesLess l m) <;> simp [asBool, hq]
    simp only [Builtin.max_, List.foldlM_cons, List.foldlM_nil, Sem.run_bind, h, Result.andThen_ok, Sem.run_pure]
theorem S_strGt {T T' : TypeId} {x y : Operand} {l m : List UInt8} (hx : Gv (st.ev x) (.p (strP l))) (hy : Gv (st.ev y) (.p (strP m))) (hd : Nat.blt d n = true) :
    Step P E kp n ops ⟨some d, .binOp .gtr T x y T', ty, ps, af, none⟩ st (st.put d (.p (boolP (!(Op.bytesLess l m || decide (l = m)))))) := S_strCmp hx hy hd fun w => by
  simp only [eqGuard, binOp, Op.stringOp, ba_toList, beq_dec]; rfl
theorem S_strGe {T T' : TypeId} {x y : Operand} {l m : List UInt8} (hx : Gv (st.ev x) (.p (strP l))) (hy : Gv (st.ev y) (.p (strP m))) (hd : Nat.blt d n = true) :
    Step P E kp n ops ⟨some d, .binOp .geq T x y T', ty, ps, af, none⟩ st (st.put d (.p (boolP (!Op.bytesLess l m)))) := S_strCmp hx hy hd fun w => by
  simp only [eqGuard, binOp, Op.stringOp, ba_toList, beq_dec]; rfl

/-! ### Pointers against nil -/
def isPtr (b : Bool) (x : AV) : Prop := ∀ w Pub φ u, RA w Pub φ x u → ∃ p : Option Addr, u = .pointer p ∧ p.isNone = b
theorem S_eqNil {T T' e : TypeId} {x y : Operand} {b : Bool} (hx : isPtr b (st.ev x)) (hy : Gv (st.ev y) (.p (.v (.pointer none)))) (hu : P.underlying T = some (.pointer e)) (hd : Nat.blt d n = true) :
    Step P E kp n ops ⟨some d, .binOp .eql T x y T', ty, ps, af, none⟩ st (st.put d (.p (.v (.bool b)))) :=
  S_pure _ rfl rfl hd fun a w φ Pub I hR => by
    obtain ⟨p, e1, hp⟩ := hx _ _ _ _ (hR x)
    have e2 := hy.v (hR y)
    refine ⟨.bool b, ?_, by simp [RA, RP]⟩
    have hpe : P.pointee T = e := by unfold Program.pointee; rw [hu]
    simp only [execOp, e1, e2, eqGuard]
    simp [run_eql_pointer_nil w T p (by rw [hpe]; exact hu), hp]
theorem S_neNil {T T' e : TypeId} {x y : Operand} {b : Bool} (hx : isPtr b (st.ev x)) (hy : Gv (st.ev y) (.p (.v (.pointer none)))) (hu : P.underlying T = some (.pointer e)) (hd : Nat.blt d n = true) :
    Step P E kp n ops ⟨some d, .binOp .neq T x y T', ty, ps, af, none⟩ st (st.put d (.p (.v (.bool (!b))))) :=
  S_pure _ rfl rfl hd fun a w φ Pub I hR => by
    obtain ⟨p, e1, hp⟩ := hx _ _ _ _ (hR x)
    have e2 := hy.v (hR y)
    refine ⟨.bool (!b), ?_, by simp [RA, RP]⟩
    have hpe : P.pointee T = e := by unfold Program.pointee; rw [hu]
    simp only [execOp, e1, e2, eqGuard]
    simp [run_neq_pointer_nil w T p (by rw [hpe]; exact hu), hp]

/-! ### Bytes of a constant string -/
theorem heap_freeze_other (w : World) (a : Addr) (m k : Nat) (hk : k ≠ a.block) : (w.freeze a m).heap[k]? = w.heap[k]? := by
  unfold World.freeze
  split
  · rfl
  · simp only [Array.getElem?_modify]
    rw [if_neg (Ne.symm hk)]
theorem heap_freeze_same {w : World} {a : Addr} {m : Nat} {cur : Array Value} {t : TypeId} {lo hi : Nat} (hb : w.heap[a.block]? = some (.cells cur t (lo, hi))) (hm : m ≠ 0) :
    (w.freeze a m).heap[a.block]? = some (.cells cur t (if lo == hi then (a.off, a.off + m) else (min lo a.off, max hi (a.off + m)))) := by
  unfold World.freeze
  rw [if_neg hm]
  simp only [Array.getElem?_modify, if_true, hb, Option.map_some]
theorem size_freeze (w : World) (a : Addr) (m : Nat) : (w.freeze a m).heap.size = w.heap.size := by
  unfold World.freeze
  split
  · rfl
  · simp
theorem cell_freeze (w : World) (a : Addr) (m : Nat) (k i : Nat) : (w.freeze a m).cell? ⟨k, i, none⟩ = w.cell? ⟨k, i, none⟩ := by
  unfold World.cell?
  by_cases hk : k = a.block
  · subst hk
    by_cases hm : m = 0
    · unfold World.freeze; rw [if_pos hm]
    · cases hb : w.heap[a.block]? with
      | none =>
        have : (w.freeze a m).heap[a.block]? = none := by
          unfold World.freeze; rw [if_neg hm]
          simp only [Array.getElem?_modify, if_true, hb, Option.map_none]
        simp only [this]
      | some o =>
        cases o with
        | cells cur t fr => rw [heap_freeze_same (lo := fr.1) (hi := fr.2) hb hm]
        | _ =>
          have : (w.freeze a m).heap[a.block]? = w.heap[a.block]? := by
            unfold World.freeze; rw [if_neg hm]
            simp only [Array.getElem?_modify, if_true, hb, Option.map_some]
          rw [this, hb]
  · rw [heap_freeze_other _ _ _ _ hk]
theorem streams_freeze (w : World) (a : Addr) (m : Nat) : (w.freeze a m).os = w.os ∧ (w.freeze a m).tape = w.tape ∧ (w.freeze a m).output = w.output := by
  unfold World.freeze; split <;> exact ⟨rfl, rfl, rfl⟩
/-- Something about a block of the call's own that no cell shows. -/
theorem Inv.touch {φ : Ghost} {Pub : Nat → Nat → Prop} {h : List (Nat × OB)} {w w' : World} (I : Inv E kp φ Pub h w) {r b c : Nat} (ha : (look OB.dead h r).alive = true) (hr : φ r = some (b, c)) (s1 : w'.os = w.os) (s2 : w'.tape = w.tape) (s3 : w'.output = w.output)
    (hsz : w'.heap.size = w.heap.size) (hoth : ∀ k, k ≠ b → w'.heap[k]? = w.heap[k]?) (hcell : ∀ k i, w'.cell? ⟨k, i, none⟩ = w.cell? ⟨k, i, none⟩) (hob : Hp w' Pub φ r (look OB.dead h r)) : Inv E kp φ Pub h w' := by
  have hm := I.mine r b c ha hr
  have H : Adv w Pub w' Pub := fun k i hp => ⟨hp, hcell k i⟩
  refine I.next s1 s2 s3 (by rw [hsz]; exact Nat.le_refl _) (fun k hk hA => hoth k (fun e => by
      subst e
      rcases hm with hm | hm
      · omega
      · exact hA hm)) H (fun _ _ hp => .inl hp) (fun k i hk => by rw [hsz]; exact I.publ k i hk) (fun q hq => ?_) (fun q k c' hq hk => I.mine q k c' hq hk) (fun q q' k c1 c2 hq hq' hk hk' => I.inj q q' k c1 c2 hq hq' hk hk') (fun _ _ => rfl)
  by_cases e : r = q
  · subst e; exact hob
  · refine Hp_keep H (fun k c' hk => ⟨hoth k (fun e2 => ?_), fun i hi => hi⟩) rfl (fun _ _ => rfl) (I.own q)
    subst e2
    exact e (I.inj r q _ _ _ ha hq hr hk)
theorem S_markStr {T e : TypeId} {x : Operand} {r m sz pub : Nat} {cells : List PV} {t : TypeId} (hx : Gv (st.ev x) (.osl r m)) (hl : st.ob r = .row cells t sz pub) (h1 : P.underlying T = some (.slice e)) (h3 : P.underlying e = some (.int .u8)) (hm : 0 < m) (hd : Nat.blt d n = true) :
    Step P E kp n ops ⟨some d, .convert T T x, ty, ps, af, none⟩ st (st.put d (.osl r m)) := by
  refine Step.val rfl fun a w ⟨φ, Pub, I, h0, hn, hsl⟩ => ?_
  have hv := hx _ _ _ _ (ev_R (h := st.heap) hsl x)
  have hv' := hv
  unfold RA at hv
  rcases hv with ⟨b, c, e0, ev, hc⟩ | ⟨_, hz, _⟩
  · have hl' : look OB.dead st.heap r = .row cells t sz pub := hl
    have k := I.own r
    rw [hl'] at k
    rcases k with ⟨k0, _⟩ | ⟨b', c', cur, fr, k1, ⟨k2, k2'⟩, k3, k4, k5, k6, k7, k8⟩
    · rw [e0] at k0; cases k0
    · rw [e0] at k1; cases k1
      obtain ⟨lo, hi⟩ := fr
      obtain ⟨s1, s2, s3⟩ := streams_freeze w ⟨b, cur.size, none⟩ 1
      have hb2 := heap_freeze_same (a := ⟨b, cur.size, none⟩) k2 (m := 1) (by decide)
      have hcell : ∀ k i, (w.freeze ⟨b, cur.size, none⟩ 1).cell? ⟨k, i, none⟩ = w.cell? ⟨k, i, none⟩ := fun k i => cell_freeze w _ 1 k i
      have H : Adv w Pub (w.freeze ⟨b, cur.size, none⟩ 1) Pub := fun k i hp => ⟨hp, hcell k i⟩
      have I' : Inv E kp φ Pub st.heap (w.freeze ⟨b, cur.size, none⟩ 1) := by
        refine I.touch (by rw [hl']; rfl) e0 s1 s2 s3 (size_freeze _ _ _) (fun k hk => heap_freeze_other w _ 1 k hk) hcell ?_
        rw [hl']
        refine .inr ⟨b, c, cur, _, e0, ⟨hb2, ?_⟩, k3, k4, k5, RPs_mono H _ _ k6, k7, k8⟩
        unfold FrOk at k2' ⊢
        by_cases hq : (lo == hi) = true
        · rw [if_pos hq]; exact .inr (Nat.le_refl _)
        · rw [if_neg hq]
          rcases k2' with k2' | k2'
          · cases k2'; simp at hq
          · exact .inr (by simp only at k2' ⊢; omega)
      refine ⟨a.eval x, _, ?_, Sat.put I' h0 hn (fun s => RA_mono H _ _ (fun _ _ => rfl) (hsl s)) hd (RA_mono H _ _ (fun _ _ => rfl) hv')⟩
      have hsh : w.shape? b = some (t, cur.size) := by unfold World.shape?; rw [k2]
      simp only [execOp, ev, convert, Sem.run_bind, run_underlying h1, Result.andThen_ok, run_underlying h3, beq_self_eq_true, markStringish, run_shape, hsh, run_freeze, Sem.run_pure]
  · omega

/-! ### Array literals -/
theorem S_buildAr {T : TypeId} {parts : List (Nat × Operand)} {m s : Nat} {z : List Value} {out : List AV} (hT : arOf P T = some (m, s)) (hz : zeOf P T = some z) (hf : fillA ((List.range m).map fun i => (i * s, s)) (boxV z) (parts.map fun p => (p.1, st.ev p.2)) = some out) (hd : Nat.blt d n = true) :
    Step P E kp n ops ⟨some d, .build T parts.toArray, ty, ps, af, none⟩ st (st.put d (.agg out)) :=
  S_pure _ rfl rfl hd fun a w φ Pub I hR => by
    obtain ⟨e, hu, hs⟩ := ar_of hT
    obtain ⟨v, hv, hc⟩ := run_zeroCells hz w
    obtain ⟨cur', h1, h2⟩ := fill_R (place := fun i => some (i * s, s)) (a := a) (fun i os hos => by
      rw [List.getElem?_map] at hos
      cases hq : (List.range m)[i]? with
      | none => rw [hq] at hos; cases hos
      | some j =>
        rw [hq] at hos
        obtain ⟨_, e⟩ := List.getElem?_eq_some_iff.1 hq
        rw [List.getElem_range] at e
        subst e; exact hos) (us := parts.map fun p => (p.1, a.eval p.2)) (cur := z.toArray) hf (RAs_vals z) (by simp) (fun j i x hj => by
      rw [List.getElem?_map] at hj ⊢
      cases hq : parts[j]? with
      | none => rw [hq] at hj; cases hj
      | some p =>
        rw [hq] at hj
        simp only [Option.map_some, Option.some.injEq, Prod.mk.injEq] at hj
        obtain ⟨rfl, rfl⟩ := hj
        exact ⟨a.eval p.2, rfl, hR p.2⟩)
    refine ⟨.agg cur', ?_, by unfold RA; exact ⟨cur'.toList, by simp, h2⟩⟩
    have hr : (Instr.build T (parts.toArray.map fun (i, x) => (i, a.eval x))).run P w = .ok (.agg cur') w := by
      unfold Instr.build
      simp only [Sem.run_bind, hv, hc, Result.andThen_ok, run_underlying hu, run_sizeOf hs]
      have e : (parts.toArray.map fun (p : Nat × Operand) => (p.1, a.eval p.2)).toList = parts.map fun p => (p.1, a.eval p.2) := by simp
      rw [e, h1]; rfl
    simp only [execOp]
    rw [Sem.run_bind]
    exact (by rw [hr]; rfl)
end
end Go.Proofs.Ytnopdnclefopbaa
