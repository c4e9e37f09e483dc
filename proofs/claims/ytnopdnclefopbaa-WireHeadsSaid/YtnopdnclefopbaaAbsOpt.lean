/- One operation, over values without addresses: literals of structs and slices, make, append, parts of strings and arrays; what may be forgotten, renamed or shared on the way. They name no function of the program. -/
import Derived.Test.YtnopdnclefopbaaAbsOps
import Derived.Laws.MakeOwn
import Derived.IntWalk
namespace Go.Proofs.Ytnopdnclefopbaa
open Go.RowKit
set_option linter.unusedVariables false
set_option linter.unusedSimpArgs false

section
variable {P : Program} {E : Env} {kp : List Nat} {n : Nat} {ops : Array Oper} {st st' : AS} {d : Nat} {ty : TypeId} {ps : String} {af : Array Edge}

/-! ### Parts of strings -/
theorem str_extract (l : List UInt8) (i j : Nat) : (⟨l.toArray⟩ : ByteArray).extract i j = ⟨((l.drop i).take (j - i)).toArray⟩ := by
  apply ByteArray.ext
  simp [ByteArray.data_extract, List.take_drop]
section
variable {T : TypeId} {x : Operand} {l : List UInt8} {k : IntKind} {i j : Int} (hx : Gv (st.ev x) (.p (strP l))) (hT : P.underlying T = some .string) (hd : Nat.blt d n = true)
include hx hT hd
theorem S_strLo {lo : Operand} (hlo : Gv (st.ev lo) (.p (.v (.int k i)))) (h0 : 0 ≤ i) (h1 : i ≤ l.length) :
    Step P E kp n ops ⟨some d, .slice T x (some lo) none none, ty, ps, af, none⟩ st (st.put d (.p (strP (l.drop i.toNat)))) :=
  S_pure _ rfl rfl hd fun a w φ Pub I hR => by
    refine ⟨.string ⟨(l.drop i.toNat).toArray⟩, ?_, by simp [RA, RP]⟩
    have hsz : (⟨l.toArray⟩ : ByteArray).size = l.length := rfl
    have he : (⟨l.toArray⟩ : ByteArray).extract i.toNat l.length = ⟨(l.drop i.toNat).toArray⟩ := by
      rw [str_extract, List.take_of_length_le (by simp)]
    simp only [execOp, hx.v (hR x), Option.map_some, Option.map_none, hlo.v (hR lo)]
    rw [Sem.run_bind, run_sliceAt_string (w := w) T _ _ _ _ hT]
    simp [Instr.slice, run_underlying hT, Instr.sliceBounds, run_sliceBound, h0, h1, hsz, he]
theorem S_strHi {hi : Operand} (hhi : Gv (st.ev hi) (.p (.v (.int k j)))) (h0 : 0 ≤ j) (h1 : j ≤ l.length) :
    Step P E kp n ops ⟨some d, .slice T x none (some hi) none, ty, ps, af, none⟩ st (st.put d (.p (strP (l.take j.toNat)))) :=
  S_pure _ rfl rfl hd fun a w φ Pub I hR => by
    refine ⟨.string ⟨(l.take j.toNat).toArray⟩, ?_, by simp [RA, RP]⟩
    have hsz : (⟨l.toArray⟩ : ByteArray).size = l.length := rfl
    have he : (⟨l.toArray⟩ : ByteArray).extract 0 j.toNat = ⟨(l.take j.toNat).toArray⟩ := by
      rw [str_extract]; simp
    simp only [execOp, hx.v (hR x), Option.map_some, Option.map_none, hhi.v (hR hi)]
    rw [Sem.run_bind, run_sliceAt_string (w := w) T _ _ _ _ hT]
    simp [Instr.slice, run_underlying hT, Instr.sliceBounds, run_sliceBound, h0, h1, hsz, he]
theorem S_strLoHi {lo hi : Operand} {k' : IntKind} (hlo : Gv (st.ev lo) (.p (.v (.int k i)))) (hhi : Gv (st.ev hi) (.p (.v (.int k' j)))) (h0 : 0 ≤ i) (h1 : i ≤ j) (h2 : j ≤ l.length) :
    Step P E kp n ops ⟨some d, .slice T x (some lo) (some hi) none, ty, ps, af, none⟩ st (st.put d (.p (strP ((l.drop i.toNat).take (j.toNat - i.toNat))))) :=
  S_pure _ rfl rfl hd fun a w φ Pub I hR => by
    refine ⟨.string ⟨((l.drop i.toNat).take (j.toNat - i.toNat)).toArray⟩, ?_, by simp [RA, RP]⟩
    have hsz : (⟨l.toArray⟩ : ByteArray).size = l.length := rfl
    have he := str_extract l i.toNat j.toNat
    have hj : 0 ≤ j := by omega
    have hj2 : (j.toNat : Int) = j := by omega
    simp only [execOp, hx.v (hR x), Option.map_some, Option.map_none, hlo.v (hR lo), hhi.v (hR hi)]
    rw [Sem.run_bind, run_sliceAt_string (w := w) T _ _ _ _ hT]
    simp [Instr.slice, run_underlying hT, Instr.sliceBounds, run_sliceBound, h0, h1, h2, hj, hj2, hsz, he]
end
theorem S_strCmp {op : BinOp} {T T' : TypeId} {x y : Operand} {l m : List UInt8} {r : Bool} (hx : Gv (st.ev x) (.p (strP l))) (hy : Gv (st.ev y) (.p (strP m))) (hd : Nat.blt d n = true)
    (hr : ∀ w, Sem.run P (do eqGuard op T x y (.string ⟨l.toArray⟩) (.string ⟨m.toArray⟩); binOp op T (.string ⟨l.toArray⟩) (.string ⟨m.toArray⟩)) w = .ok (.bool r) w) :
    Step P E kp n ops ⟨some d, .binOp op T x y T', ty, ps, af, none⟩ st (st.put d (.p (boolP r))) := S_bin hx hy hd hr
theorem ba_toList (l : List UInt8) : (⟨l.toArray⟩ : ByteArray).toList = l := by simp
theorem beq_dec (l m : List UInt8) : (l == m) = decide (l = m) := by rw [Bool.eq_iff_iff]; simp
theorem S_strEq {T T' : TypeId} {x y : Operand} {l m : List UInt8} (hx : Gv (st.ev x) (.p (strP l))) (hy : Gv (st.ev y) (.p (strP m))) (hd : Nat.blt d n = true) :
    Step P E kp n ops ⟨some d, .binOp .eql T x y T', ty, ps, af, none⟩ st (st.put d (.p (boolP (decide (l = m))))) := S_strCmp hx hy hd fun w => by
  simp only [eqGuard, binOp, Op.stringOp, ba_toList, beq_dec]; rfl
theorem S_strNe {T T' : TypeId} {x y : Operand} {l m : List UInt8} (hx : Gv (st.ev x) (.p (strP l))) (hy : Gv (st.ev y) (.p (strP m))) (hd : Nat.blt d n = true) :
    Step P E kp n ops ⟨some d, .binOp .neq T x y T', ty, ps, af, none⟩ st (st.put d (.p (boolP (!decide (l = m))))) := S_strCmp hx hy hd fun w => by
  simp only [eqGuard, binOp, Op.stringOp, ba_toList, beq_dec]; rfl
theorem S_strLt {T T' : TypeId} {x y : Operand} {l m : List UInt8} (hx : Gv (st.ev x) (.p (strP l))) (hy : Gv (st.ev y) (.p (strP m))) (hd : Nat.blt d n = true) :
    Step P E kp n ops ⟨some d, .binOp .lss T x y T', ty, ps, af, none⟩ st (st.put d (.p (boolP (Op.bytesLess l m)))) := S_strCmp hx hy hd fun w => by
  simp only [eqGuard, binOp, Op.stringOp, ba_toList, beq_dec]; rfl
theorem S_strLe {T T' : TypeId} {x y : Operand} {l m : List UInt8} (hx : Gv (st.ev x) (.p (strP l))) (hy : Gv (st.ev y) (.p (strP m))) (hd : Nat.blt d n = true) :
    Step P E kp n ops ⟨some d, .binOp .leq T x y T', ty, ps, af, none⟩ st (st.put d (.p (boolP (Op.bytesLess l m || decide (l = m))))) := S_strCmp hx hy hd fun w => by
  simp only [eqGuard, binOp, Op.stringOp, ba_toList, beq_dec]; rfl
theorem S_strAdd {T T' : TypeId} {x y : Operand} {l m : List UInt8} (hx : Gv (st.ev x) (.p (strP l))) (hy : Gv (st.ev y) (.p (strP m))) (hlen : l.length + m.length ≤ 9223372036854775807) (hd : Nat.blt d n = true) :
    Step P E kp n ops ⟨some d, .binOp .add T x y T', ty, ps, af, none⟩ st (st.put d (.p (strP (l ++ m)))) := S_bin hx hy hd fun w => by
  have h1 : (⟨l.toArray⟩ : ByteArray).size = l.length := rfl
  have h2 : (⟨m.toArray⟩ : ByteArray).size = m.length := rfl
  have h3 : (⟨l.toArray⟩ : ByteArray) ++ ⟨m.toArray⟩ = ⟨(l ++ m).toArray⟩ := by
    apply ByteArray.ext; simp
  have h4 : ¬ (((l.length + m.length : Nat) : Int) > IntKind.i64.max) := by
    rw [show IntKind.i64.max = 9223372036854775807 from rfl]; omega
  simp only [eqGuard, binOp, Op.stringOp, h1, h2, h3, if_neg h4]; rfl

/-! ### Literals -/
/-- The cells of a literal: its parts put into the zero cells. -/
def fillA (pl : List (Nat × Nat)) : List AV → List (Nat × AV) → Option (List AV)
  | cells, [] => some cells
  | cells, (i, x) :: rest =>
    match pl[i]? with
    | none => none
    | some (o, s) => if x.cs.length = s ∧ o + s ≤ cells.length ∧ allOne x.cs = true then fillA pl (putL cells o x.cs) rest else none
theorem foldl_putL (xs : List Value) : ∀ (j o : Nat) (cs : Array Value), ((xs.zipIdx j).foldl (fun cs (p : Value × Nat) => cs.setIfInBounds (o + p.2) p.1) cs).toList = putL cs.toList (o + j) xs := by
  induction xs with
  | nil => intro j o cs; rfl
  | cons x xs ih =>
    intro j o cs
    simp only [List.zipIdx_cons, List.foldl_cons]
    rw [ih (j + 1) o]
    simp [putL, Nat.add_assoc]
theorem fill_R {w : World} {Pub : Nat → Nat → Prop} {φ : Ghost} {pl : List (Nat × Nat)} {place : Nat → Option (Nat × Nat)} (hpl : ∀ i os, pl[i]? = some os → place i = some os) {a : Act} :
    ∀ {parts : List (Nat × AV)} {us : List (Nat × Value)} {cells out : List AV} {cur : Array Value}, fillA pl cells parts = some out → RAs w Pub φ cells cur.toList →
      parts.length = us.length → (∀ (j i : Nat) (x : AV), parts[j]? = some (i, x) → ∃ u : Value, us[j]? = some (i, u) ∧ RA w Pub φ x u) →
      ∃ cur' : Array Value, Instr.fill place cur us = some cur' ∧ RAs w Pub φ out cur'.toList
  | [], us, cells, out, cur, h, hR, hl, _ => by
    simp only [fillA, Option.some.injEq] at h; subst h
    have : us = [] := List.eq_nil_of_length_eq_zero hl.symm
    subst this
    exact ⟨cur, rfl, hR⟩
  | (i, x) :: parts, us, cells, out, cur, h, hR, hl, hp => by
    obtain ⟨u, hu, hxu⟩ := hp 0 i x rfl
    cases us with
    | nil => simp at hu
    | cons p us =>
      simp only [List.getElem?_cons_zero, Option.some.injEq] at hu; subst hu
      simp only [fillA] at h
      cases hq : pl[i]? with
      | none => rw [hq] at h; cases h
      | some os =>
        obtain ⟨o, s⟩ := os
        rw [hq] at h
        simp only at h
        split at h
        · next hc =>
          obtain ⟨c1, c2⟩ := cs_R hc.2.2 hxu
          have hlc := RAs_length c1
          have hcl := RAs_length hR
          have hsz : u.cells.size = s := by rw [← Array.length_toList]; omega
          obtain ⟨cur', h1, h2⟩ := fill_R (cur := (u.cells.zipIdx.foldl (fun cs (p : Value × Nat) => cs.setIfInBounds (o + p.2) p.1) cur)) hpl (a := a) h (by
              rw [← Array.foldl_toList, Array.toList_zipIdx, foldl_putL, Nat.add_zero]; exact RAs_putL o hR c1) (by simpa using hl) (fun j i y hy => by
              obtain ⟨v, hv, hyv⟩ := hp (j + 1) i y (by simpa using hy)
              exact ⟨v, by simpa using hv, hyv⟩)
          refine ⟨cur', ?_, h2⟩
          rw [Array.length_toList] at hcl
          have hn : ¬ (u.cells.size ≠ s ∨ o + u.cells.size > cur.size) := by omega
          simp only [Instr.fill, hpl i _ hq]
          rw [if_neg (by simpa using hn)]
          exact h1
        · cases h
theorem run_mapM_places {T : TypeId} {fs : Array Field} {pl : List (Nat × Nat)} (hu : P.underlying T = some (.struct fs)) (hp : plOf P T = some pl) (w : World) :
    (fs.mapM fun f => (do pure (f.offset, ← sizeOf f.type) : Sem (Nat × Nat))).run P w = .ok pl.toArray w := by
  unfold plOf at hp
  rw [hu] at hp
  simp only at hp
  have key : ∀ (l : List Field) (pl : List (Nat × Nat)), (l.mapM fun f => (P.info? f.type).map fun i => (f.offset, i.size)) = some pl → (l.mapM fun f => (do pure (f.offset, ← sizeOf f.type) : Sem (Nat × Nat))).run P w = .ok pl w := by
    intro l
    induction l with
    | nil => intro pl h1; simp at h1; subst h1; rfl
    | cons f l ih =>
      intro pl h1
      rw [List.mapM_cons] at h1 ⊢
      cases hq : P.info? f.type with
      | none => rw [hq] at h1; cases h1
      | some fi =>
        rw [hq] at h1
        cases hl : (l.mapM fun f => (P.info? f.type).map fun i => (f.offset, i.size)) with
        | none => simp only [hl] at h1; cases h1
        | some pl' =>
          simp only [hl, Option.map_some] at h1
          cases h1
          have hs : (sizeOf f.type).run P w = .ok fi.size w := run_sizeOf (by unfold szOf; rw [hq]; rfl) w
          simp only [Sem.run_bind, hs, ih pl' hl, Result.andThen_ok, Sem.run_pure]
  have := key fs.toList pl hp
  rw [Array.mapM_eq_mapM_toList]
  change Sem.run P ((List.mapM _ fs.toList) >>= fun l => pure l.toArray) w = _
  rw [Sem.run_bind, this]; rfl
/-- A struct literal. -/
theorem S_build {T : TypeId} {parts : List (Nat × Operand)} {pl : List (Nat × Nat)} {z : List Value} {out : List AV} (hp : plOf P T = some pl) (hz : zeOf P T = some z) (hf : fillA pl (boxV z) (parts.map fun p => (p.1, st.ev p.2)) = some out) (hd : Nat.blt d n = true) :
    Step P E kp n ops ⟨some d, .build T parts.toArray, ty, ps, af, none⟩ st (st.put d (.agg out)) :=
  S_pure _ rfl rfl hd fun a w φ Pub I hR => by
    obtain ⟨fs, hu⟩ := struct_of hp
    obtain ⟨v, hv, hc⟩ := run_zeroCells hz w
    obtain ⟨cur', h1, h2⟩ := fill_R (place := (pl.toArray[·]?)) (a := a) (fun i os hos => by simpa using hos) (us := parts.map fun p => (p.1, a.eval p.2)) (cur := z.toArray) hf (RAs_vals z) (by simp) (fun j i x hj => by
      rw [List.getElem?_map] at hj ⊢
      cases hq : parts[j]? with
      | none => rw [hq] at hj; cases hj
      | some p =>
        rw [hq] at hj
        simp only [Option.map_some, Option.some.injEq, Prod.mk.injEq] at hj
        obtain ⟨rfl, rfl⟩ := hj
        exact ⟨a.eval p.2, rfl, hR p.2⟩)
    refine ⟨.agg cur', ?_, by unfold RA; exact ⟨cur'.toList, by simp, h2⟩⟩
    have hr : (Instr.build T (parts.toArray.map fun (i, x) => (i, a.eval x))).run P w = .ok (.agg cur') w := by
      unfold Instr.build
      simp only [Sem.run_bind, hv, hc, Result.andThen_ok, run_underlying hu, run_mapM_places hu hp]
      have e : (parts.toArray.map fun (p : Nat × Operand) => (p.1, a.eval p.2)).toList = parts.map fun p => (p.1, a.eval p.2) := by simp
      rw [e, h1]; rfl
    simp only [execOp]
    rw [Sem.run_bind]
    exact (by rw [hr]; rfl)

/-! ### What may be forgotten, renamed, shared -/
theorem wk_slots {h' : List (Nat × OB)} {sl' : List (Nat × AV)} (hs : ∀ s, look AV.any sl' s = look AV.any st.slots s ∨ look AV.any sl' s = .any) (hh : subH st.heap h') : Wk E kp n st ⟨sl', h'⟩ := by
  rintro a w ⟨φ, Pub, I, h0, hn, hsl⟩
  refine ⟨φ, Pub, I.sub hh, h0, hn, fun s => ?_⟩
  rcases hs s with e | e
  · show RA w Pub φ (look AV.any sl' s) _; rw [e]; exact hsl s
  · show RA w Pub φ (look AV.any sl' s) _; rw [e]; simp [RA]
theorem subS_nil {sl : List (Nat × AV)} : ∀ s, look AV.any [] s = look AV.any sl s ∨ look AV.any [] s = .any := fun s => .inr rfl
/-- The slots that are kept, with values that theirs are. -/
def subS (sl sl' : List (Nat × AV)) : Prop := ∀ s, Gv (look AV.any sl s) (look AV.any sl' s)
theorem Gv.any {x : AV} : Gv x .any := fun _ _ _ _ _ => by simp [RA]
theorem subS.nil {sl : List (Nat × AV)} : subS sl [] := fun s => Gv.any
theorem subS.cons {sl sl' : List (Nat × AV)} {s : Nat} {x : AV} (h : Gv (look AV.any sl s) x) (k : subS sl sl') : subS sl ((s, x) :: sl') := fun q => by
  rw [look_cons]
  by_cases e : s = q
  · subst e; rw [if_pos rfl]; exact h
  · rw [if_neg e]; exact k q
theorem wk_sub {h' : List (Nat × OB)} {sl' : List (Nat × AV)} (hs : subS st.slots sl') (hh : subH st.heap h') : Wk E kp n st ⟨sl', h'⟩ := by
  rintro a w ⟨φ, Pub, I, h0, hn, hsl⟩
  exact ⟨φ, Pub, I.sub hh, h0, hn, fun s => hs s _ _ _ _ (hsl s)⟩
/-- A slot is said otherwise. -/
theorem wk_slot (s : Nat) {x : AV} (h : Gv (look AV.any st.slots s) x) : Wk E kp n st (st.put s x) := by
  rintro a w ⟨φ, Pub, I, h0, hn, hsl⟩
  refine ⟨φ, Pub, I, h0, hn, fun q => ?_⟩
  simp only [AS.put, look_cons]
  split
  · next e => subst e; exact h _ _ _ _ (hsl s)
  · exact hsl q
/-- The nil slice in a slot becomes an empty row of the call's own. -/
theorem wk_nil (s r : Nat) (t : TypeId) (sz : Nat) (h : Gv (look AV.any st.slots s) (.p (.v (.slice none 0 0)))) (hf : st.free kp r = true) : Wk E kp n st ⟨(s, .osl r 0) :: st.slots, (r, .row [] t sz 0) :: st.heap⟩ := by
  rintro a w ⟨φ, Pub, I, h0, hn, hsl⟩
  obtain ⟨f1, f2, f3, f4⟩ := free_split hf
  refine ⟨_, Pub, I.nilRow f1 f2 f4 t sz 0, h0, hn, fun q => ?_⟩
  simp only [look_cons]
  split
  · next e => subst e; unfold RA; exact .inr ⟨if_pos rfl, rfl, h.v (hsl s)⟩
  · exact RA_rename (Adv.refl _ _) (look_sHas f3) (hsl q)

/-- A block of the call's own is shared: wherever it is spoken of, its cells are. -/
def shA (r : Nat) (cells : List PV) : AV → AV
  | .own q off => bif Nat.beq q r then .p (.pp cells off) else .own q off
  | .osl q m => bif Nat.beq q r then .p (.sl cells m) else .osl q m
  | x => x
def shB (r : Nat) (cells : List PV) : OB → OB
  | .box cs t => .box (cs.map (shA r cells)) t
  | x => x
def shS (r : Nat) (cells : List PV) : List (Nat × AV) → List (Nat × AV)
  | [] => []
  | (s, x) :: l => (s, shA r cells x) :: shS r cells l
def shH (r : Nat) (cells : List PV) : List (Nat × OB) → List (Nat × OB)
  | [] => []
  | (s, x) :: l => (s, shB r cells x) :: shH r cells l
theorem look_shS {r : Nat} {cells : List PV} : ∀ (l : List (Nat × AV)) (s : Nat), look AV.any (shS r cells l) s = shA r cells (look AV.any l s)
  | [], s => rfl
  | (k, x) :: l, s => by
    simp only [shS, look_cons]
    split
    · rfl
    · exact look_shS l s
theorem look_shH {r : Nat} {cells : List PV} : ∀ (l : List (Nat × OB)) (s : Nat), look OB.dead (shH r cells l) s = shB r cells (look OB.dead l s)
  | [], s => rfl
  | (k, x) :: l, s => by
    simp only [shH, look_cons]
    split
    · rfl
    · exact look_shH l s
theorem shA_R {w : World} {Pub : Nat → Nat → Prop} {φ : Ghost} {r : Nat} {cells : List PV} (h1 : ∀ b c, φ r = some (b, c) → RPc w Pub cells b 0 ∧ c ≤ maxLen) (h2 : φ r = none → cells = []) {x : AV} {u : Value} (h : RA w Pub φ x u) : RA w Pub φ (shA r cells x) u := by
  cases x with
  | own q off =>
    simp only [shA]
    cases hq : Nat.beq q r with
    | false => exact h
    | true =>
      have := Nat.eq_of_beq_eq_true hq; subst this
      show RA w Pub φ (.p (.pp cells off)) u
      unfold RA at h ⊢
      obtain ⟨b, c, e1, e2⟩ := h
      unfold RP
      exact ⟨b, 0, by rw [Nat.zero_add]; exact e2, (h1 b c e1).1⟩
  | osl q m =>
    simp only [shA]
    cases hq : Nat.beq q r with
    | false => exact h
    | true =>
      have := Nat.eq_of_beq_eq_true hq; subst this
      show RA w Pub φ (.p (.sl cells m)) u
      unfold RA at h ⊢
      unfold RP
      rcases h with ⟨b, c, e1, e2, e3⟩ | ⟨e1, e2, e3⟩
      · exact ⟨_, c, e2, e3, (h1 b c e1).2, (fun h => by cases h), .inr ⟨b, 0, rfl, (h1 b c e1).1⟩⟩
      · subst e2; exact ⟨none, 0, e3, Nat.le_refl _, by unfold maxLen; omega, fun _ => rfl, .inl rfl⟩
  | _ => exact h
theorem shAs_R {w : World} {Pub : Nat → Nat → Prop} {φ : Ghost} {r : Nat} {cells : List PV} (h1 : ∀ b c, φ r = some (b, c) → RPc w Pub cells b 0 ∧ c ≤ maxLen) (h2 : φ r = none → cells = []) : ∀ {l : List AV} {us : List Value}, RAs w Pub φ l us → RAs w Pub φ (l.map (shA r cells)) us
  | [], us, h => by unfold RAs at h; simp only [List.map_nil]; unfold RAs; exact h
  | x :: xs, us, h => by
    unfold RAs at h
    obtain ⟨u, us', rfl, h3, h4⟩ := h
    rw [List.map_cons]; unfold RAs
    exact ⟨u, us', rfl, shA_R h1 h2 h3, shAs_R h1 h2 h4⟩
def AS.share (st : AS) (r : Nat) (cells : List PV) (t : TypeId) (sz : Nat) : AS := ⟨shS r cells st.slots, (r, .row cells t sz cells.length) :: shH r cells st.heap⟩
theorem wk_share_ {r : Nat} {ob : OB} {cells : List PV} {t : TypeId} {sz pub : Nat} (hl : st.ob r = ob) (hob : ob = .row cells t sz pub ∨ ∃ avs, ob = .box avs t ∧ AV.toPs avs = some cells ∧ sz = cells.length) : Wk E kp n st (st.share r cells t sz) := by
  rintro a w ⟨φ, Pub, I, h0, hn, hsl⟩
  obtain ⟨Pub', I', H, k1, k2⟩ := I.share hl hob
  refine ⟨φ, Pub', ?_, h0, hn, fun s => ?_⟩
  · have hal : ∀ q, (look OB.dead ((r, OB.row cells t sz cells.length) :: shH r cells st.heap) q).alive = true → (look OB.dead ((r, OB.row cells t sz cells.length) :: st.heap) q).alive = true := fun q hq => by
      rw [look_cons] at hq ⊢
      split
      · rfl
      · next e => rw [if_neg e, look_shH] at hq; cases hz : look OB.dead st.heap q <;> rw [hz] at hq <;> first | rfl | cases hq
    refine I'.next rfl rfl rfl (Nat.le_refl _) (fun _ _ _ => rfl) (Adv.refl _ _) (fun _ _ hp => .inl hp) I'.publ (fun q hq => ?_) (fun q b c hq => I'.mine q b c (hal q hq)) (fun q q' b c c' hq hq' => I'.inj q q' b c c' (hal q hq) (hal q' hq')) (fun _ _ => rfl)
    have k := I'.own q
    show Hp w Pub' φ q (look OB.dead ((r, OB.row cells t sz cells.length) :: shH r cells st.heap) q)
    rw [look_cons] at k ⊢
    split
    · next e => rw [if_pos e] at k; exact k
    · next e =>
      rw [if_neg e] at k
      rw [look_shH]
      cases hz : look OB.dead st.heap q with
      | dead => exact trivial
      | row _ _ _ _ => rw [hz] at k; exact k
      | box cs t' =>
        rw [hz] at k
        obtain ⟨b, cur, c1, c2, c3, c4, c5⟩ := k
        exact ⟨b, cur, c1, c2, shAs_R k1 k2 c3, c4, c5⟩
  · show RA w Pub' φ (look AV.any (shS r cells st.slots) s) _
    rw [look_shS]
    exact shA_R k1 k2 (RA_mono H _ _ (fun _ _ => rfl) (hsl s))
theorem wk_share (r : Nat) {cells : List PV} {t : TypeId} {sz pub : Nat} (hl : st.ob r = .row cells t sz pub) : Wk E kp n st (st.share r cells t sz) := wk_share_ hl (.inl rfl)
theorem wk_shareBox (r : Nat) {avs : List AV} {cells : List PV} {t : TypeId} (hl : st.ob r = .box avs t) (hp : AV.toPs avs = some cells) : Wk E kp n st (st.share r cells t cells.length) := wk_share_ (pub := 0) hl (.inr ⟨avs, rfl, hp, rfl⟩)

/-- A row is given another name. -/
def rnA (r r' : Nat) : AV → AV
  | .own q off => bif Nat.beq q r then .own r' off else .own q off
  | .osl q m => bif Nat.beq q r then .osl r' m else .osl q m
  | x => x
def rnS (r r' : Nat) : List (Nat × AV) → List (Nat × AV)
  | [] => []
  | (s, x) :: l => (s, rnA r r' x) :: rnS r r' l
theorem look_rnS {r r' : Nat} : ∀ (l : List (Nat × AV)) (s : Nat), look AV.any (rnS r r' l) s = rnA r r' (look AV.any l s)
  | [], s => rfl
  | (k, x) :: l, s => by
    simp only [rnS, look_cons]
    split
    · rfl
    · exact look_rnS l s

theorem rnA_R {w : World} {Pub : Nat → Nat → Prop} {φ : Ghost} {r r' : Nat} {x : AV} {u : Value} (hx : x.has r' = false) (h : RA w Pub φ x u) : RA w Pub (fun q => if q = r' then φ r else φ q) (rnA r r' x) u := by
  have same : RA w Pub (fun q => if q = r' then φ r else φ q) x u := RA_rename (Adv.refl _ _) hx h
  cases x with
  | own q off =>
    simp only [rnA]
    cases hq : Nat.beq q r with
    | false => exact same
    | true =>
      have := Nat.eq_of_beq_eq_true hq; subst this
      show RA w Pub _ (.own r' off) u
      unfold RA at h ⊢
      rw [if_pos rfl]; exact h
  | osl q m =>
    simp only [rnA]
    cases hq : Nat.beq q r with
    | false => exact same
    | true =>
      have := Nat.eq_of_beq_eq_true hq; subst this
      show RA w Pub _ (.osl r' m) u
      unfold RA at h ⊢
      rw [if_pos rfl]; exact h
  | _ => exact same
/-- A row of the call's own under another, free name. -/
theorem wk_rename (r r' : Nat) {cells : List PV} {t : TypeId} {sz pub : Nat} (hl : st.ob r = .row cells t sz pub) (hf : st.free kp r' = true) : Wk E kp n st ⟨rnS r r' st.slots, (r', .row cells t sz pub) :: (r, .dead) :: st.heap⟩ := by
  rintro a w ⟨φ, Pub, I, h0, hn, hsl⟩
  obtain ⟨f1, f2, f3, f4⟩ := free_split hf
  have hl' : look OB.dead st.heap r = .row cells t sz pub := hl
  have ha : (look OB.dead st.heap r).alive = true := by rw [hl']; rfl
  refine ⟨fun q => if q = r' then φ r else φ q, Pub, ?_, h0, hn, fun s => ?_⟩
  · have hal : ∀ q, (look OB.dead ((r', OB.row cells t sz pub) :: (r, .dead) :: st.heap) q).alive = true → q = r' ∨ (q ≠ r' ∧ q ≠ r ∧ (look OB.dead st.heap q).alive = true) := fun q hq => by
      rw [look_cons] at hq
      by_cases e : r' = q
      · exact .inl e.symm
      · rw [if_neg e, look_cons] at hq
        by_cases e2 : r = q
        · rw [if_pos e2] at hq; cases hq
        · rw [if_neg e2] at hq; exact .inr ⟨Ne.symm e, Ne.symm e2, hq⟩
    refine I.next rfl rfl rfl (Nat.le_refl _) (fun _ _ _ => rfl) (Adv.refl _ _) (fun _ _ hp => .inl hp) I.publ (fun q hq => ?_) (fun q b c hq hb => ?_) (fun q q' b c c' hq hq' hb hb' => ?_) (fun q hq => if_neg (fun e => by subst e; exact f4 hq))
    · rcases hal q hq with e | ⟨e1, e2, e3⟩
      · subst e
        rw [look_cons, if_pos rfl]
        have k := I.own r
        rw [hl'] at k
        rcases k with ⟨k1, k2⟩ | ⟨b, c, cur, fr, k1, k2⟩
        · exact .inl ⟨(if_pos rfl).trans k1, k2⟩
        · exact .inr ⟨b, c, cur, fr, (if_pos rfl).trans k1, k2⟩
      · rw [look_cons, if_neg (Ne.symm e1), look_cons, if_neg (Ne.symm e2)]
        refine Hp_keep (Adv.refl _ _) (fun _ _ _ => ⟨rfl, fun _ h => h⟩) (if_neg e1) (fun x hx => ?_) (I.own q)
        have : x ≠ r' := fun e => by subst e; rw [look_hHas f2] at hx; cases hx
        exact if_neg this
    · rcases hal q hq with e | ⟨e1, e2, e3⟩
      · rw [if_pos e] at hb; exact I.mine r b c ha hb
      · rw [if_neg e1] at hb; exact I.mine q b c e3 hb
    · rcases hal q hq with e | ⟨e1, e2, e3⟩ <;> rcases hal q' hq' with e' | ⟨e1', e2', e3'⟩
      · rw [e, e']
      · rw [if_pos e] at hb; rw [if_neg e1'] at hb'; exact absurd (I.inj q' r _ _ _ e3' ha hb' hb) e2'
      · rw [if_pos e'] at hb'; rw [if_neg e1] at hb; exact absurd (I.inj q r _ _ _ e3 ha hb hb') e2
      · rw [if_neg e1] at hb; rw [if_neg e1'] at hb'; exact I.inj q q' b c c' e3 e3' hb hb'
  · show RA w Pub _ (look AV.any (rnS r r' st.slots) s) _
    rw [look_rnS]
    exact rnA_R (look_sHas f3) (hsl s)

/-! ### make, append -/
def apOf (P : Program) (T : TypeId) : Option (TypeId × Nat × Nat × List Value) :=
  match P.underlying T with
  | some (.slice e) => (P.info? e).bind fun i => i.zero.bind fun z => if z.cells.size = i.size then some (e, i.size, i.bytes, z.cells.toList) else none
  | _ => none
theorem ap_of {T e : TypeId} {sz bytes : Nat} {z : List Value} (hT : apOf P T = some (e, sz, bytes, z)) : ∃ i v, P.underlying T = some (.slice e) ∧ P.info? e = some i ∧ i.zero = some v ∧ i.size = sz ∧ i.bytes = bytes ∧ v.cells.size = sz ∧ v.cells.toList = z := by
  unfold apOf at hT
  split at hT
  · next e' h =>
    cases hq : P.info? e' with
    | none => rw [hq] at hT; cases hT
    | some i =>
      rw [hq] at hT
      simp only [Option.bind_some] at hT
      cases hz : i.zero with
      | none => rw [hz] at hT; cases hT
      | some v =>
        rw [hz] at hT
        simp only [Option.bind_some] at hT
        split at hT
        · next hs =>
          simp only [Option.some.injEq, Prod.mk.injEq] at hT
          obtain ⟨rfl, rfl, rfl, rfl⟩ := hT
          exact ⟨i, v, h, hq, hz, rfl, rfl, hs, rfl⟩
        · cases hT
  · cases hT
/-- What is appended, whatever it is. -/
def SrcOk (st : AS) (sz : Nat) (x : AV) (m : Nat) (news : List PV) : Prop :=
  ∀ (E : Env) (kp : List Nat) (φ : Ghost) (Pub : Nat → Nat → Prop) (w : World) (u : Value), Inv E kp φ Pub st.heap w → RA w Pub φ x u → ∃ a c vs, u = .slice a m c ∧ RPs w Pub news vs ∧ Src w sz a m vs
theorem SrcOk.sl {sz m : Nat} {x : AV} {cells : List PV} (hx : Gv x (.p (.sl cells m))) (hl : cells.length = m * sz) (hsz : 0 < sz) : SrcOk st sz x m cells := by
  intro E kp φ Pub w u I h
  have h := hx _ _ _ _ h
  unfold RA RP at h
  obtain ⟨a, c, rfl, k1, k2, k3, k4⟩ := h
  rcases k4 with k4 | ⟨b, o, rfl, k4⟩
  · subst k4
    have hc : cells = [] := List.eq_nil_of_length_eq_zero (by omega)
    subst hc
    refine ⟨a, c, [], rfl, by unfold RPs; rfl, by simp, by simp, ?_⟩
    cases a with
    | none => exact .inl ⟨rfl, rfl⟩
    | some ad => exact .inr ⟨ad, rfl, by simp⟩
  · obtain ⟨vs, c1, c2, c3⟩ := RPc_vals k4
    exact ⟨_, c, vs, rfl, c1, by rw [RPs_length c1]; exact hl, c2, .inr ⟨_, rfl, fun j v hv => by rw [Addr.add_mid]; exact c3 j v hv⟩⟩
theorem SrcOk.osl {sz m r pub : Nat} {x : AV} {t : TypeId} {cells : List PV} (hx : Gv x (.osl r m)) (hl : st.ob r = .row cells t sz pub) (hm : m * sz = cells.length) (hsz : 0 < sz) : SrcOk st sz x m cells := by
  intro E kp φ Pub w u I h
  have h := hx _ _ _ _ h
  unfold RA at h
  rcases h with ⟨b, c, e1, rfl, e3⟩ | ⟨e1, rfl, rfl⟩
  · obtain ⟨vs, c1, c2, c3⟩ := own_cell_row I hl e1
    exact ⟨_, c, vs, rfl, c1, by rw [RPs_length c1]; exact hm.symm, c2, .inr ⟨_, rfl, fun j v hv => by rw [Addr.add_mid, Nat.zero_add]; exact c3 j v hv⟩⟩
  · have hc : cells = [] := List.eq_nil_of_length_eq_zero (by omega)
    subst hc
    exact ⟨none, 0, [], rfl, by unfold RPs; rfl, by simp, by simp, .inl ⟨rfl, rfl⟩⟩
theorem SrcOk.nil {sz : Nat} {x : AV} (hx : Gv x (.p (.v (.slice none 0 0)))) : SrcOk st sz x 0 [] := by
  intro E kp φ Pub w u I h
  have := hx.v h; subst this
  exact ⟨none, 0, [], rfl, by unfold RPs; rfl, by simp, by simp, .inl ⟨rfl, rfl⟩⟩
theorem S_append {T e : TypeId} {x y : Operand} {sz bytes r m0 m pub : Nat} {cells news : List PV} {z : List Value} (r' : Nat) (hx : Gv (st.ev x) (.osl r m0)) (hl : st.ob r = .row cells e sz pub) (hn : m0 * sz = cells.length)
    (hs : SrcOk st sz (st.ev y) m news) (hT : apOf P T = some (e, sz, bytes, z)) (hsz : 0 < sz) (hb : (m0 + m) * bytes ≤ 140737488355328) (hm : m0 + m ≤ 140737488355328) (hf : st.free kp r' = true) (hd : Nat.blt d n = true) :
    Step P E kp n ops ⟨some d, .call { callee := .builtin .append, args := #[x, y], argTypes := #[T, T] }, ty, ps, af, none⟩ st ⟨(d, .osl r' (m0 + m)) :: st.slots, (r', .row (cells ++ news) e sz pub) :: (r, .dead) :: st.heap⟩ := by
  refine Step.val rfl fun a w ⟨φ, Pub, I, h0, hnn, hsl⟩ => ?_
  obtain ⟨f1, f2, f3, f4⟩ := free_split hf
  obtain ⟨i, v, t1, t2, t3, t4, t5, t6, t7⟩ := ap_of hT
  obtain ⟨ad, c, vs, e1, c1, c2⟩ := hs E kp φ Pub w _ I (ev_R (h := st.heap) hsl y)
  obtain ⟨v', w', g, hr, I', hR, H⟩ := I.append (P := P) hl (hx _ _ _ _ (ev_R (h := st.heap) hsl x)) hn f1 f2 f4 T ty i v bytes t1 t2 t3 t4 t5 t6 hsz ad m c vs c1 c2 (by unfold maxLen; omega) hb
  refine ⟨v', w', ?_, Sat.put I' h0 hnn (fun s => RA_rename H (look_sHas f3) (hsl s)) hd hR⟩
  simp only [execOp, resolve, invoke, builtin, Sem.run_bind, Sem.run_pure, Result.andThen_ok, List.map_toArray, List.map_cons, List.map_nil, e1, hr]
/-- A new block that is a row of the call's own. -/
theorem row_made {φ : Ghost} {Pub : Nat → Nat → Prop} {w : World} {a : Act} (I : Inv E kp φ Pub st.heap w) (h0 : a.defers = []) (hn : a.tmps.size = n) (hsl : ∀ s, RA w Pub φ (look .any st.slots s) (a.tmps.getD s undef)) {r sz m c : Nat} {cur : Array Value} {e : TypeId} {cells : List PV}
    (hf : st.free kp r = true) (hd : Nat.blt d n = true) (hsz : cur.size = c * sz) (hle : cells.length ≤ cur.size) (hR : RPs w Pub cells (cur.toList.take cells.length)) (h1 : ∀ u ∈ cur.toList.take cells.length, u.oneCell' = true) (hc : c ≤ maxLen) (hm : m ≤ c) :
    Sat E kp n ⟨(d, .osl r m) :: st.slots, (r, .row cells e sz 0) :: st.heap⟩ (a.put (some d) (.slice (some ⟨w.heap.size, 0, none⟩) m c)) (w.alloc (.cells cur e)) := by
  obtain ⟨f1, f2, f3, f4⟩ := free_split hf
  have I' := I.alloc f1 f2 f4 (.cells cur e) c (ob := .row cells e sz 0) (.inr ⟨w.heap.size, c, cur, (0, 0), if_pos rfl, ⟨heap_alloc_new w _, .inl rfl⟩, hc, hsz, hle, RPs_mono (adv_alloc I _) _ _ hR, h1, fun i hp => by have := I.publ _ _ hp; omega⟩)
  exact Sat.put I' h0 hn (fun s => RA_alloc I (look_sHas f3) c (hsl s)) hd (by unfold RA; exact .inl ⟨_, _, if_pos rfl, rfl, hm⟩)
/-- The cells of n zero values. -/
def zerosP (z : List Value) : Nat → List PV
  | 0 => []
  | k + 1 => z.map .v ++ zerosP z k
theorem zerosP_length (z : List Value) : ∀ k, (zerosP z k).length = k * z.length
  | 0 => by simp [zerosP]
  | k + 1 => by simp [zerosP, zerosP_length z k, Nat.succ_mul]; omega
theorem zerosP_one (v : Value) : ∀ k, zerosP [v] k = List.replicate k (.v v)
  | 0 => rfl
  | k + 1 => by simp [zerosP, zerosP_one v k, List.replicate_succ]
theorem vals_RPs {w : World} {Pub : Nat → Nat → Prop} : ∀ (vs : List Value), RPs w Pub (vs.map .v) vs
  | [] => by simp only [List.map_nil]; unfold RPs; rfl
  | v :: vs => by rw [List.map_cons]; unfold RPs; exact ⟨v, vs, rfl, by unfold RP; rfl, vals_RPs vs⟩
def zerosV (z : List Value) : Nat → List Value
  | 0 => []
  | k + 1 => z ++ zerosV z k
theorem zerosV_R {w : World} {Pub : Nat → Nat → Prop} (z : List Value) : ∀ k, RPs w Pub (zerosP z k) (zerosV z k)
  | 0 => by unfold zerosP zerosV RPs; rfl
  | k + 1 => RPs_append (vals_RPs z) (zerosV_R z k)
theorem zerosV_length (z : List Value) : ∀ k, (zerosV z k).length = k * z.length
  | 0 => by simp [zerosV]
  | k + 1 => by simp [zerosV, zerosV_length z k, Nat.succ_mul]; omega
theorem zerosV_get (z : List Value) (hz : 0 < z.length) : ∀ k i, i < k * z.length → (zerosV z k)[i]? = z[i % z.length]?
  | 0, i, h => by simp at h
  | k + 1, i, h => by
    simp only [zerosV]
    by_cases hi : i < z.length
    · rw [List.getElem?_append_left hi, Nat.mod_eq_of_lt hi]
    · rw [List.getElem?_append_right (by omega), zerosV_get z hz k _ (by rw [Nat.succ_mul] at h; omega), show i % z.length = (i - z.length) % z.length from Nat.mod_eq_sub_mod (by omega)]
theorem madeCells_eq (z : Array Value) (hz : 0 < z.size) (k : Nat) : (madeCells z (k * z.size)).toList = zerosV z.toList k := by
  apply List.ext_getElem?
  intro i
  have hzl : 0 < z.toList.length := by simpa using hz
  by_cases hi : i < k * z.size
  · rw [zerosV_get z.toList hzl k i (by simpa using hi)]
    have hlt : i % z.size < z.size := Nat.mod_lt _ hz
    simp [madeCells, hi, Array.getElem?_eq_getElem hlt, hlt]
  · rw [List.getElem?_eq_none (by simp [madeCells]; omega), List.getElem?_eq_none (by rw [zerosV_length]; simp; omega)]
theorem zerosV_one {z : List Value} (h1 : z.all (·.oneCell') = true) : ∀ k, ∀ u ∈ zerosV z k, u.oneCell' = true
  | 0, u, hu => by simp [zerosV] at hu
  | k + 1, u, hu => by
    simp only [zerosV, List.mem_append] at hu
    rcases hu with hu | hu
    · rw [List.all_eq_true] at h1; exact h1 u hu
    · exact zerosV_one h1 k u hu
theorem zerosV_take (z : List Value) : ∀ (a b : Nat), a ≤ b → (zerosV z b).take (a * z.length) = zerosV z a
  | 0, b, h => by simp [zerosV]
  | a + 1, 0, h => by omega
  | a + 1, b + 1, h => by
    simp only [zerosV]
    rw [Nat.succ_mul, Nat.add_comm, List.take_append, List.take_of_length_le (by omega), show z.length + a * z.length - z.length = a * z.length from by omega, zerosV_take z a b (by omega)]
theorem S_make {T e : TypeId} {x y : Operand} {sz bytes l c : Nat} {k1 k2 : IntKind} {z : List Value} (r : Nat) (hx : Gv (st.ev x) (.p (.v (.int k1 (l : Int))))) (hy : Gv (st.ev y) (.p (.v (.int k2 (c : Int))))) (hT : apOf P T = some (e, sz, bytes, z)) (hsz : 0 < sz) (h1 : z.all (·.oneCell') = true)
    (hlc : l ≤ c) (hb : bytes * c ≤ 281474976710656) (hm : c ≤ 281474976710656) (hf : st.free kp r = true) (hd : Nat.blt d n = true) :
    Step P E kp n ops ⟨some d, .makeSlice T x y, ty, ps, af, none⟩ st ⟨(d, .osl r l) :: st.slots, (r, .row (zerosP z l) e sz 0) :: st.heap⟩ := by
  refine Step.val rfl fun a w ⟨φ, Pub, I, h0, hn, hsl⟩ => ?_
  obtain ⟨i, v, t1, t2, t3, t4, t5, t6, t7⟩ := ap_of hT
  have e1 := hx.v (ev_R (h := st.heap) hsl x)
  have e2 := hy.v (ev_R (h := st.heap) hsl y)
  have hr := run_make (P := P) w T e i v t1 t2 t3 k1 k2 (l : Int) (c : Int) (by omega) (by omega) (by rw [t5, ← Int.natCast_mul]; omega) (by omega)
  rw [Int.toNat_natCast, Int.toNat_natCast, t4] at hr
  have hzl : z.length = sz := by rw [← t7, Array.length_toList, t6]
  have hcur : (madeCells v.cells (c * sz)).toList = zerosV z c := by
    rw [← t6, madeCells_eq v.cells (by omega) c, t7]
  have htk : (madeCells v.cells (c * sz)).toList.take (zerosP z l).length = zerosV z l := by
    rw [hcur, zerosP_length]; exact zerosV_take z l c hlc
  refine ⟨_, _, ?_, row_made (st := st) I h0 hn hsl (r := r) (sz := sz) (m := l) (c := c) (cur := madeCells v.cells (c * sz)) (e := e) (cells := zerosP z l) hf hd (by simp [madeCells]) ?_ (by rw [htk]; exact zerosV_R z l) (by rw [htk]; exact zerosV_one h1 l) (by unfold maxLen; omega) hlc⟩
  · simp only [execOp, e1, e2]
    rw [Sem.run_bind, hr]; rfl
  · rw [zerosP_length, hzl]; simp [madeCells]; exact Nat.mul_le_mul_right _ hlc
theorem fresh_zero (z : Array Value) (hz : 0 < z.size) (k : Nat) : ((Array.range (k * z.size)).map (z[· % z.size]!)).toList = zerosV z.toList k := by
  rw [← madeCells_eq z hz k]; rfl
/-- A slice literal, all of whose elements are said. -/
theorem S_buildSlice {T e : TypeId} {parts : List (Nat × Operand)} {sz bytes len : Nat} {z : List Value} {out : List AV} {qs : List PV} (r : Nat) (hpos : 0 < len) (hT : apOf P T = some (e, sz, bytes, z)) (hsz : 0 < sz) (h1 : z.all (·.oneCell') = true) (hlen : Nat.ble (len * sz) 1000000 = true)
    (hf : fillA ((List.range len).map fun i => (i * sz, sz)) (boxV (zerosV z len)) (parts.map fun p => (p.1, st.ev p.2)) = some out) (hone : allOne out = true) (hq : AV.toPs out = some qs) (hql : qs.length = len * sz) (hfr : st.free kp r = true) (hd : Nat.blt d n = true) :
    Step P E kp n ops ⟨some d, .buildSlice T len parts.toArray, ty, ps, af, none⟩ st ⟨(d, .osl r len) :: st.slots, (r, .row qs e sz 0) :: st.heap⟩ := by
  refine Step.val rfl fun a w ⟨φ, Pub, I, h0, hn, hsl⟩ => ?_
  have hlen := Nat.le_of_ble_eq_true hlen
  obtain ⟨i, v, t1, t2, t3, t4, t5, t6, t7⟩ := ap_of hT
  have hzv : (zeroValue e).run P w = .ok v w := by simp [zeroValue, typeInfo, t2, t3]
  have hso : (sizeOf e).run P w = .ok sz w := run_sizeOf (by unfold szOf; rw [t2]; simp [t4]) w
  have hR : ∀ y, RA w Pub φ (st.ev y) (a.eval y) := ev_R hsl
  have hvz : v.cells.size = sz := t6
  obtain ⟨cur', k1, k2⟩ := fill_R (w := w) (Pub := Pub) (φ := φ) (place := fun i => some (i * sz, sz)) (a := a) (fun i os hos => by
      rw [List.getElem?_map] at hos
      cases hr : (List.range len)[i]? with
      | none => rw [hr] at hos; cases hos
      | some j =>
        rw [hr] at hos
        have : j = i := by rw [List.getElem?_eq_some_iff] at hr; obtain ⟨_, h⟩ := hr; simpa using h.symm
        subst this; simpa using hos) (us := parts.map fun p => (p.1, a.eval p.2)) (cur := (Array.range (len * sz)).map (v.cells[· % v.cells.size]!)) hf (by
      have := fresh_zero v.cells (by omega) len
      rw [t6, t7] at this
      rw [t6, this]
      exact RAs_vals _) (by simp) (fun j i x hj => by
      rw [List.getElem?_map] at hj ⊢
      cases hq : parts[j]? with
      | none => rw [hq] at hj; cases hj
      | some p =>
        rw [hq] at hj
        simp only [Option.map_some, Option.some.injEq, Prod.mk.injEq] at hj
        obtain ⟨rfl, rfl⟩ := hj
        exact ⟨a.eval p.2, rfl, hR p.2⟩)
  have k3 := toPs_R hq k2
  have hcl := RPs_length k3
  rw [Array.length_toList] at hcl
  refine ⟨.slice (some ⟨w.heap.size, 0, none⟩) len len, w.alloc (.cells cur' e), ?_, row_made (st := st) I h0 hn hsl hfr hd (by rw [hcl, hql]) (by omega) ?_ ?_ (by unfold maxLen; have : len ≤ len * sz := Nat.le_mul_of_pos_right _ hsz; omega) (Nat.le_refl _)⟩
  · have hz : ¬ (len * sz > 2 ^ 24) := by omega
    have e2 : (parts.toArray.map fun (p : Nat × Operand) => (p.1, a.eval p.2)).toList = parts.map fun p => (p.1, a.eval p.2) := by simp
    simp only [execOp]
    rw [Sem.run_bind]
    unfold Instr.buildSlice
    simp only [Sem.run_bind, run_underlying t1, Result.andThen_ok, hso, if_neg hz]
    have h00 : ¬ len * sz = 0 := by have := Nat.mul_pos hpos hsz; omega
    simp only [if_neg h00, Sem.run_bind, hzv, Result.andThen_ok, Sem.run_pure]
    rw [e2, k1]
    simp [newRow, newObj, Sem.run]
  · rw [List.take_of_length_le (by rw [Array.length_toList]; omega)]; exact k3
  · rw [List.take_of_length_le (by rw [Array.length_toList]; omega)]; exact allOne_R hone k2
theorem Gv.nilSl : Gv (.p (.v (.slice none 0 0))) (.p (.sl [] 0)) := fun w Pub φ u h => by
  unfold RA RP at h ⊢
  exact ⟨none, 0, h, Nat.le_refl _, by unfold maxLen; omega, fun _ => rfl, .inl rfl⟩
/-- A nil slice reads as an empty one. -/
def PV.nn1 : PV → PV
  | .v (.slice none 0 0) => .sl [] 0
  | x => x
def PV.nnL : List PV → List PV
  | [] => []
  | x :: xs => x.nn1 :: nnL xs
def PV.nn : PV → PV
  | .agg l => .agg (nnL l)
  | x => x.nn1
theorem nn1_R {w : World} {Pub : Nat → Nat → Prop} {x : PV} {u : Value} (h : RP w Pub x u) : RP w Pub x.nn1 u := by
  unfold PV.nn1
  split
  · unfold RP at h ⊢
    exact ⟨none, 0, h, Nat.le_refl _, by unfold maxLen; omega, fun _ => rfl, .inl rfl⟩
  · exact h
theorem nnL_R {w : World} {Pub : Nat → Nat → Prop} : ∀ {l : List PV} {us : List Value}, RPs w Pub l us → RPs w Pub (PV.nnL l) us
  | [], us, h => h
  | x :: xs, us, h => by
    unfold RPs at h
    obtain ⟨u, us', e, h1, h2⟩ := h
    simp only [PV.nnL]; unfold RPs
    exact ⟨u, us', e, nn1_R h1, nnL_R h2⟩
theorem Gv.toPn {x : AV} {q : PV} (h : x.toP = some q) : Gv x (.p q.nn) := fun w Pub φ u k => by
  have k := toP_R h k
  unfold RA
  unfold PV.nn
  split
  · unfold RP at k ⊢
    obtain ⟨vs, e, k⟩ := k
    exact ⟨vs, e, nnL_R k⟩
  · exact nn1_R k
/-- The row in a slot is shared. -/
theorem wk_shareSlot (s : Nat) {r m sz pub : Nat} {cells : List PV} {t : TypeId} (hs : look AV.any st.slots s = .osl r m) (hl : st.ob r = .row cells t sz pub) : Wk E kp n st (st.share r cells t sz) := wk_share r hl
/-- The variable that a slot points to is shared. -/
theorem wk_shareBoxSlot (s : Nat) {r off : Nat} {avs : List AV} {cells : List PV} {t : TypeId} (hs : look AV.any st.slots s = .own r off) (hl : st.ob r = .box avs t) (hp : AV.toPs avs = some cells) : Wk E kp n st (st.share r cells t cells.length) := wk_shareBox r hl hp
/-- The row that a cell of a variable holds is shared. -/
theorem wk_shareCell (r0 i : Nat) {r m sz pub : Nat} {cells : List PV} {avs : List AV} {t t0 : TypeId} (h0 : st.ob r0 = .box avs t0) (hs : avs[i]? = some (.osl r m)) (hl : st.ob r = .row cells t sz pub) : Wk E kp n st (st.share r cells t sz) := wk_share r hl
def AllGv : List AV → List AV → Prop
  | [], ys => ys = []
  | x :: xs, ys => ∃ y zs, ys = y :: zs ∧ Gv x y ∧ AllGv xs zs
theorem AllGv.nil : AllGv [] [] := rfl
theorem AllGv.cons {x y : AV} {xs ys : List AV} (h : Gv x y) (k : AllGv xs ys) : AllGv (x :: xs) (y :: ys) := ⟨y, ys, rfl, h, k⟩
theorem AllGv.R {w : World} {Pub : Nat → Nat → Prop} {φ : Ghost} : ∀ {xs ys : List AV} {us : List Value}, AllGv xs ys → RAs w Pub φ xs us → RAs w Pub φ ys us
  | [], ys, us, h, k => by unfold AllGv at h; subst h; exact k
  | x :: xs, ys, us, h, k => by
    obtain ⟨y, zs, rfl, h1, h2⟩ := h
    unfold RAs at k ⊢
    obtain ⟨u, us', e, k1, k2⟩ := k
    exact ⟨u, us', e, h1 _ _ _ _ k1, AllGv.R h2 k2⟩
/-- Some slots and blocks are kept. -/
def AS.keep (st : AS) (ss rs : List Nat) : AS := ⟨ss.map fun s => (s, st.at_ s), rs.map fun r => (r, st.ob r)⟩
theorem wk_keep (ss rs : List Nat) : Wk E kp n st (st.keep ss rs) := by
  refine wk_sub ?_ ?_
  · induction ss with
    | nil => exact subS.nil
    | cons s ss ih => exact subS.cons Gv.r ih
  · induction rs with
    | nil => exact subH_nil
    | cons r rs ih => exact subH_cons rfl ih
/-- The row in slot s, and some more slots, are kept. -/
theorem wk_keepRow (s : Nat) (ss : List Nat) {r m sz pub : Nat} {cells : List PV} {t : TypeId} (hs : look AV.any st.slots s = .osl r m) (hl : st.ob r = .row cells t sz pub) : Wk E kp n st ⟨(s, .osl r m) :: ss.map (fun s => (s, st.at_ s)), [(r, .row cells t sz pub)]⟩ := by
  refine wk_sub (subS.cons (by rw [hs]; exact Gv.r) ?_) (subH_cons hl subH_nil)
  induction ss with
  | nil => exact subS.nil
  | cons s ss ih => exact subS.cons Gv.r ih
theorem wk_renameSlot (s r' : Nat) {r m sz pub : Nat} {cells : List PV} {t : TypeId} (hs : look AV.any st.slots s = .osl r m) (hl : st.ob r = .row cells t sz pub) (hf : st.free kp r' = true) : Wk E kp n st ⟨rnS r r' st.slots, (r', .row cells t sz pub) :: (r, .dead) :: st.heap⟩ := wk_rename r r' hl hf
/-- A slice against nil: whether it is nil is not known, unless it has elements. -/
theorem run_eqNil {T e : TypeId} {s : Nat} (hT : slOf P T = some (e, s)) (a : Option Addr) (m c : Nat) (x y : Operand) (w : World) : Sem.run P (do eqGuard .eql T x y (.slice a m c) (.slice none 0 0); binOp .eql T (.slice a m c) (.slice none 0 0)) w = .ok (.bool a.isNone) w := by
  have h : ∀ d, (Op.equalIn (d + 1) T (.slice a m c) (.slice none 0 0)).run P w = .ok a.isNone w := fun d => by
    cases a <;> simp [Op.equalIn, run_underlying (sl_of hT).1]
  simp [eqGuard, binOp, Op.equal, Op.maxDepth, h 9999]
theorem run_neNil {T e : TypeId} {s : Nat} (hT : slOf P T = some (e, s)) (a : Option Addr) (m c : Nat) (x y : Operand) (w : World) : Sem.run P (do eqGuard .neq T x y (.slice a m c) (.slice none 0 0); binOp .neq T (.slice a m c) (.slice none 0 0)) w = .ok (.bool (!a.isNone)) w := by
  have h : ∀ d, (Op.equalIn (d + 1) T (.slice a m c) (.slice none 0 0)).run P w = .ok a.isNone w := fun d => by
    cases a <;> simp [Op.equalIn, run_underlying (sl_of hT).1]
  simp [eqGuard, binOp, Op.equal, Op.maxDepth, h 9999]
theorem AO.eqNil {Q : Exit → Act → World → Prop} {T T' e : TypeId} {s m : Nat} {x y : Operand} {cells : List PV} {rest : List Oper} (hx : Gv (st.ev x) (.p (.sl cells m))) (hy : Gv (st.ev y) (.p (.v (.slice none 0 0)))) (hT : slOf P T = some (e, s)) (hd : Nat.blt d n = true)
    (h : ∀ g : Bool, (g = true → m = 0) → AO P E kp n ops Q rest (st.put d (.p (boolP g)))) : AO P E kp n ops Q (⟨some d, .binOp .eql T x y T', ty, ps, af, none⟩ :: rest) st := by
  rintro a w ⟨φ, Pub, I, h0, hn, hsl⟩
  have k := hx _ _ _ _ (ev_R (h := st.heap) hsl x)
  unfold RA RP at k
  obtain ⟨ad, c, e1, k1, k2, k3, k4⟩ := k
  have e2 := hy.v (ev_R (h := st.heap) hsl y)
  refine wpList_plain rfl fun K hK => ?_
  unfold Oper.wp
  have hr : (execOp a.eval ⟨some d, .binOp .eql T x y T', ty, ps, af, none⟩).run P w = .ok (.value (.bool ad.isNone)) w := by
    simp only [execOp, e1, e2]
    rw [Sem.run_bind, run_eqNil hT]; rfl
  rw [hr]
  refine hK _ _ (h ad.isNone (fun hg => ?_) _ _ (Sat.put I h0 hn hsl hd (by simp [RA, RP])))
  have := k3 (Option.isNone_iff_eq_none.1 hg); omega
/-- An empty slice literal. -/
theorem S_buildSlice0 {T e : TypeId} {sz bytes : Nat} {z : List Value} (r : Nat) (hT : apOf P T = some (e, sz, bytes, z)) (hfr : st.free kp r = true) (hd : Nat.blt d n = true) :
    Step P E kp n ops ⟨some d, .buildSlice T 0 #[], ty, ps, af, none⟩ st ⟨(d, .osl r 0) :: st.slots, (r, .row [] e sz 0) :: st.heap⟩ := by
  refine Step.val rfl fun a w ⟨φ, Pub, I, h0, hn, hsl⟩ => ?_
  obtain ⟨i, v, t1, t2, t3, t4, t5, t6, t7⟩ := ap_of hT
  have hso : (sizeOf e).run P w = .ok sz w := run_sizeOf (by unfold szOf; rw [t2]; simp [t4]) w
  refine ⟨.slice (some ⟨w.heap.size, 0, none⟩) 0 0, w.alloc (.cells #[] e), ?_, row_made (st := st) (sz := sz) I h0 hn hsl hfr hd (by simp) (by simp) (by simp [RPs]) (by simp) (by unfold maxLen; omega) (Nat.le_refl _)⟩
  simp only [execOp]
  rw [Sem.run_bind]
  unfold Instr.buildSlice
  simp [Sem.run_bind, run_underlying t1, Result.andThen_ok, hso, Instr.fill, newRow, newObj, Sem.run]
  congr 2
  apply Array.ext <;> simp
/-- A row's cells are said otherwise. -/
theorem wk_row (r : Nat) {cells cells' : List PV} {t : TypeId} {sz pub : Nat} (hl : st.ob r = .row cells t sz pub) (hc : cells = cells') : Wk E kp n st (st.set r (.row cells' t sz pub)) := by
  subst hc
  rintro a w ⟨φ, Pub, I, h0, hn, hsl⟩
  refine ⟨φ, Pub, I.sub fun q => .inl ?_, h0, hn, hsl⟩
  show look OB.dead ((r, _) :: st.heap) q = _
  rw [look_cons]
  split
  · next e => subst e; exact hl.symm
  · rfl
/-- The byte that a number comes to. -/
def u8of (i : Int) : UInt8 := UInt8.ofNat (i % 256).toNat
theorem u8of_toNat (i : Int) : ((u8of i).toNat : Int) = i % 256 := by
  unfold u8of
  rw [UInt8.toNat_ofNat']
  have h1 := Int.emod_nonneg i (show (256 : Int) ≠ 0 by decide)
  have h2 := Int.emod_lt_of_pos i (show (0 : Int) < 256 by decide)
  omega
theorem u8w (i : Int) : IntKind.u8.wrap i = ((u8of i).toNat : Int) := by rw [IntKind.wrap_u8, u8of_toNat]
theorem u8i (c : UInt8) : IntKind.i64.wrap (c.toNat : Int) = (c.toNat : Int) := by
  have := c.toNat_lt
  exact IntWalk.i64_in _ (by omega)
theorem u8of_id (c : UInt8) : u8of (c.toNat : Int) = c := by
  apply UInt8.toNat_inj.1
  have := u8of_toNat (c.toNat : Int)
  have := c.toNat_lt
  omega
theorem Ret.eq {fn : Func} {hout : List (Nat × OB)} {res res' : AV} {e : Exit} (k : To E kp n (bodyPost P fn (EvPost E kp hout res')) e st) (h : res' = res) : To E kp n (bodyPost P fn (EvPost E kp hout res)) e st := h ▸ k
theorem w64 {x : Int} (h0 : -9223372036854775808 ≤ x) (h1 : x ≤ 9223372036854775807) : IntKind.i64.wrap x = x := IntWalk.i64_in x ⟨h0, h1⟩
theorem Gv.int {k : IntKind} {i j : Int} (h : i = j) : Gv (.p (.v (.int k i))) (.p (.v (.int k j))) := by rw [h]; exact Gv.r
theorem Gv.bool {i j : Bool} (h : i = j) : Gv (.p (.v (.bool i))) (.p (.v (.bool j))) := by rw [h]; exact Gv.r
theorem Gv.osl_ {r i j : Nat} (h : i = j) : Gv (.osl r i) (.osl r j) := by rw [h]; exact Gv.r
theorem subH_row {h h' : List (Nat × OB)} {r : Nat} {c1 c2 : List PV} {t : TypeId} {sz p1 p2 : Nat} (hr : look OB.dead h r = .row c1 t sz p1) (hc : c1 = c2) (hp : p1 = p2) (k : subH h h') : subH h ((r, .row c2 t sz p2) :: h') := by subst hc hp; exact subH_cons hr k
theorem subH_box {h h' : List (Nat × OB)} {r : Nat} {c1 c2 : List AV} {t : TypeId} (hr : look OB.dead h r = .box c1 t) (hc : c1 = c2) (k : subH h h') : subH h ((r, .box c2 t) :: h') := by subst hc; exact subH_cons hr k
end
end Go.Proofs.Ytnopdnclefopbaa
