/- One operation, over values without addresses: loads, stores, variables, fields, elements. They name no function of the program. -/
import Derived.Test.YtnopdnclefopbaaAbsStep
namespace Go.Proofs.Ytnopdnclefopbaa
open Go.RowKit
set_option linter.unusedVariables false
set_option linter.unusedSimpArgs false

section
variable {P : Program} {E : Env} {kp : List Nat} {n : Nat} {ops : Array Oper} {st st' : AS} {d : Nat} {ty : TypeId} {ps : String} {af : Array Edge}

theorem run_isAgg {T : TypeId} {g : Bool} (hT : aggOf P T = some g) (w : World) : (isAgg T).run P w = .ok g w := by
  unfold aggOf at hT
  cases hu : P.underlying T with
  | none => rw [hu] at hT; cases hT
  | some dd =>
    rw [hu] at hT
    simp only [Option.map_some, Option.some.injEq] at hT
    unfold isAgg
    rw [Sem.run_bind, run_underlying hu w]
    cases dd <;> simp [TypeDesc.isRow] at hT <;> subst hT <;> rfl
theorem run_sizeOf {T : TypeId} {s : Nat} (hT : szOf P T = some s) (w : World) : (sizeOf T).run P w = .ok s w := by
  unfold szOf at hT
  cases hu : P.info? T with
  | none => rw [hu] at hT; cases hT
  | some i =>
    rw [hu] at hT
    simp only [Option.map_some, Option.some.injEq] at hT
    simp [sizeOf, typeInfo, hu, hT]
theorem run_zeroCells {T : TypeId} {z : List Value} (hT : zeOf P T = some z) (w : World) : ∃ v : Value, (zeroValue T).run P w = .ok v w ∧ v.cells = z.toArray := by
  unfold zeOf at hT
  cases hu : P.info? T with
  | none => rw [hu] at hT; cases hT
  | some i =>
    rw [hu] at hT
    simp only [Option.bind_some] at hT
    cases hz : i.zero with
    | none => rw [hz] at hT; cases hT
    | some v =>
      rw [hz] at hT
      simp only [Option.map_some, Option.some.injEq] at hT
      exact ⟨v, by simp [zeroValue, typeInfo, hu, hz], by rw [← hT]⟩

/-! ### Addresses -/
theorem S_nilOwn {x : Operand} {r off : Nat} (hx : Gv (st.ev x) (.own r off)) (hd : Nat.blt d n = true) : Step P E kp n ops ⟨some d, .nilCheck x, ty, ps, af, none⟩ st (st.put d (.own r off)) :=
  S_pure _ rfl rfl hd fun a w φ Pub I hs => by
    have h := hx _ _ _ _ (hs x)
    refine ⟨a.eval x, ?_, h⟩
    unfold RA at h
    obtain ⟨b, c, _, e⟩ := h
    simp [execOp, e]
theorem S_nilPp {x : Operand} {cells : List PV} {off : Nat} (hx : Gv (st.ev x) (.p (.pp cells off))) (hd : Nat.blt d n = true) : Step P E kp n ops ⟨some d, .nilCheck x, ty, ps, af, none⟩ st (st.put d (.p (.pp cells off))) :=
  S_pure _ rfl rfl hd fun a w φ Pub I hs => by
    have h := hx _ _ _ _ (hs x)
    refine ⟨a.eval x, ?_, h⟩
    unfold RA RP at h
    obtain ⟨b, c, e, _⟩ := h
    simp [execOp, e]

theorem mapM_get {T : TypeId} {fs : Array Field} {pl : List (Nat × Nat)} (hu : P.underlying T = some (.struct fs)) (hp : plOf P T = some pl) {i o s : Nat} (hi : pl[i]? = some (o, s)) :
    ∃ f, fs[i]? = some f ∧ f.offset = o ∧ szOf P f.type = some s := by
  unfold plOf at hp
  rw [hu] at hp
  simp only at hp
  have key : ∀ (l : List Field) (pl : List (Nat × Nat)) (i : Nat), (l.mapM fun f => (P.info? f.type).map fun i => (f.offset, i.size)) = some pl → pl[i]? = some (o, s) → ∃ f, l[i]? = some f ∧ f.offset = o ∧ szOf P f.type = some s := by
    intro l
    induction l with
    | nil => intro pl i h1 h2; simp at h1; subst h1; simp at h2
    | cons f l ih =>
      intro pl i h1 h2
      rw [List.mapM_cons] at h1
      cases hq : P.info? f.type with
      | none => rw [hq] at h1; cases h1
      | some fi =>
        rw [hq] at h1
        cases hl : (l.mapM fun f => (P.info? f.type).map fun i => (f.offset, i.size)) with
        | none => simp only [hl] at h1; cases h1
        | some pl' =>
          simp only [hl, Option.map_some] at h1
          cases h1
          cases i with
          | zero =>
            simp at h2
            exact ⟨f, rfl, h2.1, by unfold szOf; rw [hq]; simp [h2.2]⟩
          | succ i =>
            simp at h2
            obtain ⟨f', h3, h4⟩ := ih pl' i hl h2
            exact ⟨f', by simpa using h3, h4⟩
  obtain ⟨f, h1, h2⟩ := key fs.toList pl i hp hi
  exact ⟨f, by simpa using h1, h2⟩
theorem struct_of {T : TypeId} {pl : List (Nat × Nat)} (hp : plOf P T = some pl) : ∃ fs, P.underlying T = some (.struct fs) := by
  unfold plOf at hp
  split at hp
  · next fs h => exact ⟨fs, h⟩
  · cases hp

theorem run_fieldAt {T : TypeId} {pl : List (Nat × Nat)} (hp : plOf P T = some pl) {i o s : Nat} (hi : pl[i]? = some (o, s)) (hs : s ≠ 0) (b off : Nat) (w : World) :
    (Instr.fieldAt T (.pointer (some ⟨b, off, none⟩)) i).run P w = .ok (.pointer (some ⟨b, off + o, none⟩)) w := by
  obtain ⟨fs, hu⟩ := struct_of hp
  obtain ⟨f, h1, h2, h3⟩ := mapM_get hu hp hi
  unfold Instr.fieldAt
  rw [Sem.run_bind, run_underlying hu w]
  simp [h1, Instr.sureAddr, fieldPlace, run_sizeOf h3, hs, h2, Addr.add_mid]
theorem S_fieldOwn {T : TypeId} {x : Operand} {f r off o s : Nat} {pl : List (Nat × Nat)} (hx : Gv (st.ev x) (.own r off)) (hp : plOf P T = some pl) (hi : pl[f]? = some (o, s)) (hs : s ≠ 0) (hd : Nat.blt d n = true) :
    Step P E kp n ops ⟨some d, .fieldAddr T x f, ty, ps, af, none⟩ st (st.put d (.own r (off + o))) :=
  S_pure _ rfl rfl hd fun a w φ Pub I hR => by
    have h := hx _ _ _ _ (hR x)
    unfold RA at h
    obtain ⟨b, c, e0, e⟩ := h
    refine ⟨.pointer (some ⟨b, off + o, none⟩), ?_, by unfold RA; exact ⟨b, c, e0, rfl⟩⟩
    simp only [execOp, e]
    rw [Sem.run_bind, run_fieldAt hp hi hs]; rfl
theorem S_fieldPp {T : TypeId} {x : Operand} {f off o s : Nat} {cells : List PV} {pl : List (Nat × Nat)} (hx : Gv (st.ev x) (.p (.pp cells off))) (hp : plOf P T = some pl) (hi : pl[f]? = some (o, s)) (hs : s ≠ 0) (hd : Nat.blt d n = true) :
    Step P E kp n ops ⟨some d, .fieldAddr T x f, ty, ps, af, none⟩ st (st.put d (.p (.pp cells (off + o)))) :=
  S_pure _ rfl rfl hd fun a w φ Pub I hR => by
    have h := hx _ _ _ _ (hR x)
    unfold RA RP at h
    obtain ⟨b, q, e, h⟩ := h
    refine ⟨.pointer (some ⟨b, q + (off + o), none⟩), ?_, by unfold RA RP; exact ⟨b, q, rfl, h⟩⟩
    simp only [execOp, e]
    rw [Sem.run_bind, run_fieldAt hp hi hs, Nat.add_assoc]; rfl

theorem sl_of {T e : TypeId} {s : Nat} (hT : slOf P T = some (e, s)) : P.underlying T = some (.slice e) ∧ szOf P e = some s := by
  unfold slOf at hT
  split at hT
  · next e' h =>
    cases hq : P.info? e' with
    | none => rw [hq] at hT; cases hT
    | some i =>
      rw [hq] at hT
      simp only [Option.map_some, Option.some.injEq, Prod.mk.injEq] at hT
      obtain ⟨rfl, h2⟩ := hT
      exact ⟨h, by unfold szOf; rw [hq]; simp [h2]⟩
  · cases hT
theorem ar_of {T : TypeId} {m s : Nat} (hT : arOf P T = some (m, s)) : ∃ e, P.underlying T = some (.array m e) ∧ szOf P e = some s := by
  unfold arOf at hT
  split at hT
  · next m' e' h =>
    cases hq : P.info? e' with
    | none => rw [hq] at hT; cases hT
    | some i =>
      rw [hq] at hT
      simp only [Option.map_some, Option.some.injEq, Prod.mk.injEq] at hT
      obtain ⟨rfl, h2⟩ := hT
      exact ⟨e', h, by unfold szOf; rw [hq]; simp [h2]⟩
  · cases hT
theorem run_indexSl {T e : TypeId} {s : Nat} (hT : slOf P T = some (e, s)) (b off m c : Nat) {k : IntKind} {i : Int} (h0 : 0 ≤ i) (h1 : i < m) (w : World) :
    (Instr.indexAt T (.slice (some ⟨b, off, none⟩) m c) (.int k i)).run P w = .ok (.pointer (some ⟨b, off + i.toNat * s, none⟩)) w := by
  obtain ⟨hu, hs⟩ := sl_of hT
  simp [Instr.indexAt, asIntOf, run_underlying hu, h0, h1, run_sizeOf hs, Addr.add_mid]
theorem run_indexAr {T : TypeId} {m s : Nat} (hT : arOf P T = some (m, s)) (b off : Nat) {k : IntKind} {i : Int} (h0 : 0 ≤ i) (h1 : i < m) (w : World) :
    (Instr.indexAt T (.pointer (some ⟨b, off, none⟩)) (.int k i)).run P w = .ok (.pointer (some ⟨b, off + i.toNat * s, none⟩)) w := by
  obtain ⟨e, hu, hs⟩ := ar_of hT
  simp [Instr.indexAt, asIntOf, run_underlying hu, Instr.sureAddr, h0, h1, run_sizeOf hs, Addr.add_mid]
section
variable {T e : TypeId} {x y : Operand} {k : IntKind} {i : Int} {s : Nat} (hy : Gv (st.ev y) (.p (.v (.int k i)))) (hd : Nat.blt d n = true)
include hy hd
/-- An element of a shared slice. -/
theorem S_indexSl {cells : List PV} {m : Nat} (hx : Gv (st.ev x) (.p (.sl cells m))) (hT : slOf P T = some (e, s)) (h0 : 0 ≤ i) (h1 : i < m) :
    Step P E kp n ops ⟨some d, .indexAddr T x y, ty, ps, af, none⟩ st (st.put d (.p (.pp cells (i.toNat * s)))) :=
  S_pure _ rfl rfl hd fun a w φ Pub I hR => by
    have h := hx _ _ _ _ (hR x)
    unfold RA RP at h
    obtain ⟨ad, c, e1, h2, h3, h3', h4⟩ := h
    rcases h4 with h4 | ⟨b, o, e4, h4⟩
    · omega
    subst e4
    refine ⟨.pointer (some ⟨b, o + i.toNat * s, none⟩), ?_, by unfold RA RP; exact ⟨b, o, rfl, h4⟩⟩
    simp only [execOp, e1, hy.v (hR y)]
    rw [Sem.run_bind, run_indexSl hT b o m c h0 h1]; rfl
/-- An element of a row of the call's own. -/
theorem S_indexOsl {r m sz pub : Nat} {cells : List PV} {t : TypeId} (hx : Gv (st.ev x) (.osl r m)) (hT : slOf P T = some (e, s)) (h0 : 0 ≤ i) (h1 : i < m) :
    Step P E kp n ops ⟨some d, .indexAddr T x y, ty, ps, af, none⟩ st (st.put d (.own r (i.toNat * s))) :=
  S_pure _ rfl rfl hd fun a w φ Pub I hR => by
    have h := hx _ _ _ _ (hR x)
    unfold RA at h
    rcases h with ⟨b, c, e1, e2, h3⟩ | ⟨_, h2, _⟩
    · refine ⟨.pointer (some ⟨b, 0 + i.toNat * s, none⟩), ?_, by unfold RA; exact ⟨b, c, e1, by rw [Nat.zero_add]⟩⟩
      simp only [execOp, e2, hy.v (hR y)]
      rw [Sem.run_bind, run_indexSl hT b 0 m c h0 h1]; rfl
    · omega
/-- An element of an array variable. -/
theorem S_indexArr {r off m : Nat} (hx : Gv (st.ev x) (.own r off)) (hT : arOf P T = some (m, s)) (h0 : 0 ≤ i) (h1 : i < m) :
    Step P E kp n ops ⟨some d, .indexAddr T x y, ty, ps, af, none⟩ st (st.put d (.own r (off + i.toNat * s))) :=
  S_pure _ rfl rfl hd fun a w φ Pub I hR => by
    have h := hx _ _ _ _ (hR x)
    unfold RA at h
    obtain ⟨b, c, e0, e1⟩ := h
    refine ⟨.pointer (some ⟨b, off + i.toNat * s, none⟩), ?_, by unfold RA; exact ⟨b, c, e0, rfl⟩⟩
    simp only [execOp, e1, hy.v (hR y)]
    rw [Sem.run_bind, run_indexAr hT b off h0 h1]; rfl
theorem S_indexArrPp {off m : Nat} {cells : List PV} (hx : Gv (st.ev x) (.p (.pp cells off))) (hT : arOf P T = some (m, s)) (h0 : 0 ≤ i) (h1 : i < m) :
    Step P E kp n ops ⟨some d, .indexAddr T x y, ty, ps, af, none⟩ st (st.put d (.p (.pp cells (off + i.toNat * s)))) :=
  S_pure _ rfl rfl hd fun a w φ Pub I hR => by
    have h := hx _ _ _ _ (hR x)
    unfold RA RP at h
    obtain ⟨b, q, e1, h⟩ := h
    refine ⟨.pointer (some ⟨b, q + (off + i.toNat * s), none⟩), ?_, by unfold RA RP; exact ⟨b, q, rfl, h⟩⟩
    simp only [execOp, e1, hy.v (hR y)]
    rw [Sem.run_bind, run_indexAr hT b (q + off) h0 h1, Nat.add_assoc]; rfl
/-- A byte of a string. -/
theorem S_indexStr {l : List UInt8} {c : UInt8} (hx : Gv (st.ev x) (.p (.v (.string ⟨l.toArray⟩)))) (hT : P.underlying T = some .string) (h0 : 0 ≤ i) (h1 : l[i.toNat]? = some c) :
    Step P E kp n ops ⟨some d, .index T x y, ty, ps, af, none⟩ st (st.put d (.p (.v (.int .u8 (c.toNat : Int))))) :=
  S_pure _ rfl rfl hd fun a w φ Pub I hR => by
    refine ⟨.int .u8 (c.toNat : Int), ?_, by simp [RA, RP]⟩
    have hg : (⟨l.toArray⟩ : ByteArray)[i.toNat]? = some c := by
      have hlt : i.toNat < l.length := (List.getElem?_eq_some_iff.1 h1).1
      have hlt' : i.toNat < (⟨l.toArray⟩ : ByteArray).size := by simpa [ByteArray.size] using hlt
      have h2 := (List.getElem?_eq_some_iff.1 h1).2
      rw [getElem?_pos (⟨l.toArray⟩ : ByteArray) i.toNat hlt', ← h2]; rfl
    simp only [execOp, hx.v (hR x), hy.v (hR y)]
    rw [Sem.run_bind]
    simp [Instr.index, asIntOf, run_underlying hT, h0, hg]
/-- An element of an array that stands in a slot. -/
theorem S_indexAgg {l : List AV} {m : Nat} {v : AV} (hx : Gv (st.ev x) (.agg l)) (hT : P.underlying T = some (.array m e)) (he : aggOf P e = some false) (hz : szOf P e = some 1) (h0 : 0 ≤ i) (h1 : i < m) (hv : l[i.toNat]? = some v) :
    Step P E kp n ops ⟨some d, .index T x y, ty, ps, af, none⟩ st (st.put d v) :=
  S_pure _ rfl rfl hd fun a w φ Pub I hR => by
    have h := hx _ _ _ _ (hR x)
    unfold RA at h
    obtain ⟨vs, e1, h⟩ := h
    obtain ⟨u, hu, hRv⟩ := RAs_get h hv
    refine ⟨u, ?_, hRv⟩
    simp only [execOp, e1, hy.v (hR y)]
    rw [Sem.run_bind]
    simp [Instr.index, asIntOf, run_underlying hT, h0, h1, run_sizeOf hz, part, run_isAgg he, hu]
end

/-! ### Loads -/
theorem run_load1 {T : TypeId} (hT : aggOf P T = some false) {b off : Nat} {u : Value} {w : World} (hc : w.cell? ⟨b, off, none⟩ = some u) : (Instr.loadAt T (.pointer (some ⟨b, off, none⟩))).run P w = .ok u w := by
  simp [Instr.loadAt, Instr.sureAddr, loadVar, run_isAgg hT, load, Sem.run, hc]
theorem run_loadN {T : TypeId} {s : Nat} (hT : aggOf P T = some true) (hs : szOf P T = some s) {b off : Nat} {vs : List Value} {w : World} (hl : vs.length = s) (hc : w.rangeAt b off vs) :
    (Instr.loadAt T (.pointer (some ⟨b, off, none⟩))).run P w = .ok (.agg vs.toArray) w := by
  have hl' : (loadCells ⟨b, off, none⟩ s).run P w = .ok vs.toArray w := by
    rw [← hl]; exact run_loadCells_list (P := P) w ⟨b, off, none⟩ vs (fun j v hv => by rw [Addr.add_mid]; exact hc j v hv)
  simp [Instr.loadAt, Instr.sureAddr, loadVar, run_isAgg hT, run_sizeOf hs, hl']
section
variable {φ : Ghost} {Pub : Nat → Nat → Prop} {h : List (Nat × OB)} {w : World}
theorem own_cell_box (I : Inv E kp φ Pub h w) {r b c : Nat} {cells : List AV} {t : TypeId} (hl : look OB.dead h r = .box cells t) (hr : φ r = some (b, c)) :
    ∃ cur : Array Value, w.heap[b]? = some (.cells cur t (0, 0)) ∧ RAs w Pub φ cells cur.toList ∧ ∀ u ∈ cur.toList, u.oneCell' = true := by
  have k := I.own r
  rw [hl] at k
  obtain ⟨b', cur, k1, k2, k3, k4, k5⟩ := k
  rw [hr] at k1; cases k1
  exact ⟨cur, k2, k3, k4⟩
theorem own_cell_row (I : Inv E kp φ Pub h w) {r b c sz pub : Nat} {cells : List PV} {t : TypeId} (hl : look OB.dead h r = .row cells t sz pub) (hr : φ r = some (b, c)) :
    ∃ vs : List Value, RPs w Pub cells vs ∧ (∀ u ∈ vs, u.oneCell' = true) ∧ ∀ j u, vs[j]? = some u → w.cell? ⟨b, j, none⟩ = some u := by
  have k := I.own r
  rw [hl] at k
  rcases k with ⟨k0, _⟩ | ⟨b', c', cur, fr, k1, ⟨k2, k2'⟩, k3, k4, k5, k6, k7, k8⟩
  · rw [hr] at k0; cases k0
  rw [hr] at k1; cases k1
  refine ⟨_, k6, k7, fun j u hj => ?_⟩
  rw [cell_of_row w b j cur t fr k2]
  rw [List.getElem?_take] at hj
  split at hj
  · simpa using hj
  · cases hj
end
section
variable {T : TypeId} {x : Operand} (hd : Nat.blt d n = true)
include hd
theorem S_loadBox {r off : Nat} {cells : List AV} {t : TypeId} {v : AV} (hx : Gv (st.ev x) (.own r off)) (hT : aggOf P T = some false) (hl : st.ob r = .box cells t) (hv : cells[off]? = some v) :
    Step P E kp n ops ⟨some d, .load T x, ty, ps, af, none⟩ st (st.put d v) :=
  S_pure _ rfl rfl hd fun a w φ Pub I hR => by
    have h := hx _ _ _ _ (hR x)
    unfold RA at h
    obtain ⟨b, c, e0, e⟩ := h
    obtain ⟨cur, c1, c2, _⟩ := own_cell_box I hl e0
    obtain ⟨u, hu, hRv⟩ := RAs_get c2 hv
    refine ⟨u, ?_, hRv⟩
    simp only [execOp, e]
    rw [Sem.run_bind, run_load1 hT (by rw [cell_of_row w b off cur t (0, 0) c1]; simpa using hu)]; rfl
theorem S_loadBoxN {r off s : Nat} {cells : List AV} {t : TypeId} {l : List AV} (hx : Gv (st.ev x) (.own r off)) (hT : aggOf P T = some true) (hs : szOf P T = some s) (hl : st.ob r = .box cells t)
    (hv : (cells.drop off).take s = l) (hlen : l.length = s) : Step P E kp n ops ⟨some d, .load T x, ty, ps, af, none⟩ st (st.put d (.agg l)) :=
  S_pure _ rfl rfl hd fun a w φ Pub I hR => by
    have h := hx _ _ _ _ (hR x)
    unfold RA at h
    obtain ⟨b, c, e0, e⟩ := h
    obtain ⟨cur, c1, c2, _⟩ := own_cell_box I hl e0
    have c3 := RAs_take s (RAs_drop off c2)
    rw [hv] at c3
    refine ⟨_, ?_, by unfold RA; exact ⟨_, rfl, c3⟩⟩
    simp only [execOp, e]
    rw [Sem.run_bind, run_loadN hT hs (by rw [RAs_length c3]; exact hlen) (fun j v hj => by
      rw [cell_of_row w b _ cur t (0, 0) c1]
      rw [List.getElem?_take] at hj
      split at hj
      · rw [List.getElem?_drop] at hj; simpa using hj
      · cases hj)]; rfl
theorem S_loadRow {r off sz pub : Nat} {cells : List PV} {t : TypeId} {v : PV} (hx : Gv (st.ev x) (.own r off)) (hT : aggOf P T = some false) (hl : st.ob r = .row cells t sz pub) (hv : cells[off]? = some v) :
    Step P E kp n ops ⟨some d, .load T x, ty, ps, af, none⟩ st (st.put d (.p v)) :=
  S_pure _ rfl rfl hd fun a w φ Pub I hR => by
    have h := hx _ _ _ _ (hR x)
    unfold RA at h
    obtain ⟨b, c, e0, e⟩ := h
    obtain ⟨vs, c1, c2, c3⟩ := own_cell_row I hl e0
    obtain ⟨u, hu, hRv⟩ := RPs_get c1 hv
    refine ⟨u, ?_, by unfold RA; exact hRv⟩
    simp only [execOp, e]
    rw [Sem.run_bind, run_load1 hT (c3 off u hu)]; rfl
theorem S_loadRowN {r off s sz pub : Nat} {cells : List PV} {t : TypeId} {l : List PV} (hx : Gv (st.ev x) (.own r off)) (hT : aggOf P T = some true) (hs : szOf P T = some s) (hl : st.ob r = .row cells t sz pub)
    (hv : (cells.drop off).take s = l) (hlen : l.length = s) : Step P E kp n ops ⟨some d, .load T x, ty, ps, af, none⟩ st (st.put d (.p (.agg l))) :=
  S_pure _ rfl rfl hd fun a w φ Pub I hR => by
    have h := hx _ _ _ _ (hR x)
    unfold RA at h
    obtain ⟨b, c, e0, e⟩ := h
    obtain ⟨vs, c1, c2, c3⟩ := own_cell_row I hl e0
    have c4 := RPs_take s (RPs_drop off c1)
    rw [hv] at c4
    refine ⟨_, ?_, by unfold RA RP; exact ⟨_, rfl, c4⟩⟩
    simp only [execOp, e]
    rw [Sem.run_bind, run_loadN hT hs (by rw [RPs_length c4]; exact hlen) (fun j v hj => by
      rw [List.getElem?_take] at hj
      split at hj
      · rw [List.getElem?_drop] at hj; exact c3 _ _ hj
      · cases hj)]; rfl
theorem S_loadPp {off : Nat} {cells : List PV} {v : PV} (hx : Gv (st.ev x) (.p (.pp cells off))) (hT : aggOf P T = some false) (hv : cells[off]? = some v) :
    Step P E kp n ops ⟨some d, .load T x, ty, ps, af, none⟩ st (st.put d (.p v)) :=
  S_pure _ rfl rfl hd fun a w φ Pub I hR => by
    have h := hx _ _ _ _ (hR x)
    unfold RA RP at h
    obtain ⟨b, o, e, hc⟩ := h
    obtain ⟨u, hu, _, _, hRv⟩ := RPc_get hc hv
    refine ⟨u, ?_, by unfold RA; exact hRv⟩
    simp only [execOp, e]
    rw [Sem.run_bind, run_load1 hT hu]; rfl
theorem S_loadPpN {off s : Nat} {cells : List PV} {l : List PV} (hx : Gv (st.ev x) (.p (.pp cells off))) (hT : aggOf P T = some true) (hs : szOf P T = some s)
    (hv : (cells.drop off).take s = l) (hlen : l.length = s) : Step P E kp n ops ⟨some d, .load T x, ty, ps, af, none⟩ st (st.put d (.p (.agg l))) :=
  S_pure _ rfl rfl hd fun a w φ Pub I hR => by
    have h := hx _ _ _ _ (hR x)
    unfold RA RP at h
    obtain ⟨b, o, e, hc⟩ := h
    have hc2 := RPc_take s (RPc_drop off hc)
    rw [hv] at hc2
    obtain ⟨vs, c1, c2, c3⟩ := RPc_vals hc2
    refine ⟨_, ?_, by unfold RA RP; exact ⟨_, rfl, c1⟩⟩
    simp only [execOp, e]
    rw [Sem.run_bind, run_loadN hT hs (by rw [RPs_length c1]; exact hlen) (fun j v hj => c3 j v hj)]; rfl
/-- A field of a struct that stands in a slot. -/
theorem S_field1 {f o s : Nat} {l : List AV} {v : AV} {pl : List (Nat × Nat)} {fs : Array Field} (hx : Gv (st.ev x) (.agg l)) (hp : plOf P T = some pl) (hi : pl[f]? = some (o, s))
    (hf : ∀ fs fd, P.underlying T = some (.struct fs) → fs[f]? = some fd → aggOf P fd.type = some false) (hv : l[o]? = some v) :
    Step P E kp n ops ⟨some d, .field T x f, ty, ps, af, none⟩ st (st.put d v) :=
  S_pure _ rfl rfl hd fun a w φ Pub I hR => by
    have h := hx _ _ _ _ (hR x)
    unfold RA at h
    obtain ⟨vs, e, h⟩ := h
    obtain ⟨fs, hu⟩ := struct_of hp
    obtain ⟨fd, h1, h2, h3⟩ := mapM_get hu hp hi
    obtain ⟨u, h4, h5⟩ := RAs_get h hv
    refine ⟨u, ?_, h5⟩
    simp only [execOp, e]
    rw [Sem.run_bind]
    simp [Instr.field, run_underlying hu, h1, asAgg, part, run_isAgg (hf fs fd hu h1), h2, h4]
/-- A part of several results. -/
theorem S_extract {i : Nat} {l : List AV} {v : AV} (hx : Gv (st.ev x) (.tup l)) (hv : l[i]? = some v) : Step P E kp n ops ⟨some d, .extract x i, ty, ps, af, none⟩ st (st.put d v) :=
  S_pure _ rfl rfl hd fun a w φ Pub I hR => by
    have h := hx _ _ _ _ (hR x)
    unfold RA at h
    obtain ⟨vs, e, h⟩ := h
    obtain ⟨u, h4, h5⟩ := RAs_get h hv
    exact ⟨u, by simp [execOp, e, Instr.extract, h4], h5⟩
theorem S_extractP {i : Nat} {l : List PV} {v : PV} (hx : Gv (st.ev x) (.p (.tup l))) (hv : l[i]? = some v) : Step P E kp n ops ⟨some d, .extract x i, ty, ps, af, none⟩ st (st.put d (.p v)) :=
  S_pure _ rfl rfl hd fun a w φ Pub I hR => by
    have h := hx _ _ _ _ (hR x)
    unfold RA RP at h
    obtain ⟨vs, e, h⟩ := h
    obtain ⟨u, h4, h5⟩ := RPs_get h hv
    exact ⟨u, by simp [execOp, e, Instr.extract, h4], by unfold RA; exact h5⟩
end

/-! ### Variables and stores -/
/-- What a value's cells are. -/
def AV.cs : AV → List AV
  | .agg l => l
  | .p (.agg l) => l.map .p
  | x => [x]
/-- A value of one cell. -/
def AV.one : AV → Bool
  | .p (.v u) => u.oneCell'
  | .p (.pp _ _) => true
  | .p (.sl _ _) => true
  | .own _ _ => true
  | .osl _ _ => true
  | _ => false
def allOne : List AV → Bool
  | [] => true
  | x :: xs => x.one && allOne xs
section
variable {φ : Ghost} {Pub : Nat → Nat → Prop} {w : World}
theorem one_R {x : AV} {u : Value} (h1 : x.one = true) (h : RA w Pub φ x u) : u.oneCell' = true := by
  cases x with
  | p q =>
    cases q with
    | v z => unfold RA RP at h; subst h; exact h1
    | pp cells off => unfold RA RP at h; obtain ⟨b, o, rfl, _⟩ := h; rfl
    | sl cells m => unfold RA RP at h; obtain ⟨b, o, rfl, _⟩ := h; rfl
    | _ => cases h1
  | own r off => unfold RA at h; obtain ⟨b, o, _, rfl⟩ := h; rfl
  | osl r m =>
    unfold RA at h
    rcases h with ⟨b, o, _, rfl, _⟩ | ⟨_, _, rfl⟩ <;> rfl
  | _ => cases h1
theorem allOne_R : ∀ {l : List AV} {us : List Value}, allOne l = true → RAs w Pub φ l us → ∀ u ∈ us, u.oneCell' = true
  | [], us, _, h, u, hu => by unfold RAs at h; subst h; cases hu
  | x :: xs, us, h1, h, u, hu => by
    unfold RAs at h
    obtain ⟨v, vs, rfl, h2, h3⟩ := h
    simp only [allOne, Bool.and_eq_true] at h1
    rcases List.mem_cons.1 hu with rfl | hu
    · exact one_R h1.1 h2
    · exact allOne_R h1.2 h3 u hu
theorem RAs_p : ∀ {l : List PV} {us : List Value}, RPs w Pub l us → RAs w Pub φ (l.map .p) us
  | [], us, h => by unfold RPs at h; simp only [List.map_nil]; unfold RAs; exact h
  | x :: xs, us, h => by
    unfold RPs at h
    obtain ⟨v, vs, rfl, h2, h3⟩ := h
    rw [List.map_cons]; unfold RAs
    exact ⟨v, vs, rfl, by unfold RA; exact h2, RAs_p h3⟩
theorem oneCell_cells {u : Value} (h : u.oneCell' = true) : u.cells = #[u] := by cases u <;> first | rfl | cases h
theorem cs_R {x : AV} {u : Value} (h1 : allOne x.cs = true) (h : RA w Pub φ x u) : RAs w Pub φ x.cs u.cells.toList ∧ ∀ v ∈ u.cells.toList, v.oneCell' = true := by
  have single : ∀ y : AV, y.one = true → RA w Pub φ y u → RAs w Pub φ [y] u.cells.toList ∧ ∀ v ∈ u.cells.toList, v.oneCell' = true := fun y hy hR => by
    have h2 := one_R hy hR
    rw [oneCell_cells h2]
    refine ⟨by unfold RAs; exact ⟨u, [], rfl, hR, by unfold RAs; rfl⟩, fun v hv => ?_⟩
    simp at hv; subst hv; exact h2
  cases x with
  | agg l =>
    unfold RA at h
    obtain ⟨vs, rfl, h⟩ := h
    exact ⟨h, allOne_R h1 h⟩
  | p q =>
    cases q with
    | agg l =>
      unfold RA RP at h
      obtain ⟨vs, rfl, h⟩ := h
      have h3 : RAs w Pub φ (l.map .p) vs := RAs_p h
      exact ⟨h3, allOne_R h1 h3⟩
    | _ => exact single _ (by simpa [AV.cs, allOne] using h1) h
  | _ => exact single _ (by simpa [AV.cs, allOne] using h1) h
theorem RAs_vals : ∀ (vs : List Value), RAs w Pub φ (vs.map fun v => .p (.v v)) vs
  | [] => by simp only [List.map_nil]; unfold RAs; rfl
  | v :: vs => by
    rw [List.map_cons]; unfold RAs
    exact ⟨v, vs, rfl, by unfold RA RP; rfl, RAs_vals vs⟩
theorem hasL_vals (r : Nat) : ∀ (vs : List Value), hasL r (vs.map fun v => .p (.v v)) = false
  | [] => rfl
  | v :: vs => by rw [List.map_cons]; unfold hasL; rw [hasL_vals r vs]; rfl
end
def boxV (vs : List Value) : List AV := vs.map fun v => .p (.v v)

/-- A new variable, at its zero value. -/
theorem S_alloc {T : TypeId} {z : List Value} (r : Nat) (hz : zeOf P T = some z) (h1 : z.all (·.oneCell') = true) (hf : st.free kp r = true) (hd : Nat.blt d n = true) :
    Step P E kp n ops ⟨some d, .alloc T, ty, ps, af, none⟩ st ⟨(d, .own r 0) :: st.slots, (r, .box (boxV z) T) :: st.heap⟩ := by
  refine Step.val rfl fun a w ⟨φ, Pub, I, h0, hn, hs⟩ => ?_
  obtain ⟨v, hv, hc⟩ := run_zeroCells hz w
  obtain ⟨f1, f2, f3, f4⟩ := free_split hf
  have I' := I.alloc f1 f2 f4 (.cells z.toArray T) 1 (ob := .box (boxV z) T) ⟨w.heap.size, z.toArray, if_pos rfl, heap_alloc_new w _, RAs_vals z, fun u hu => by
    rw [List.all_eq_true] at h1; exact h1 u (by simpa using hu), fun i hp => by have := I.publ _ _ hp; omega⟩
  refine ⟨.pointer (some ⟨w.heap.size, 0, none⟩), w.alloc (.cells z.toArray T), ?_, Sat.put I' h0 hn (fun s => RA_alloc I (look_sHas f3) 1 (hs s)) hd (by unfold RA; exact ⟨_, _, if_pos rfl, rfl⟩)⟩
  simp only [execOp, Instr.alloc]
  simp [Sem.run_bind, hv, newVar, newRow, hc, newObj, Sem.run]
/-- A new variable with a value. -/
theorem S_box {T : TypeId} {x : Operand} {y : AV} (r : Nat) (hx : Gv (st.ev x) y) (h1 : allOne y.cs = true) (hy : hasL r y.cs = false) (hf : st.free kp r = true) (hd : Nat.blt d n = true) :
    Step P E kp n ops ⟨some d, .box T x, ty, ps, af, none⟩ st ⟨(d, .own r 0) :: st.slots, (r, .box y.cs T) :: st.heap⟩ := by
  refine Step.val rfl fun a w ⟨φ, Pub, I, h0, hn, hs⟩ => ?_
  obtain ⟨f1, f2, f3, f4⟩ := free_split hf
  have hxR := hx _ _ _ _ (ev_R (h := st.heap) hs x)
  obtain ⟨c1, c2⟩ := cs_R h1 hxR
  have I' := I.alloc f1 f2 f4 (.cells (a.eval x).cells T) 1 (ob := .box y.cs T) ⟨w.heap.size, (a.eval x).cells, if_pos rfl, heap_alloc_new w _, RAs_alloc I hy 1 c1, c2, fun i hp => by have := I.publ _ _ hp; omega⟩
  refine ⟨.pointer (some ⟨w.heap.size, 0, none⟩), w.alloc (.cells (a.eval x).cells T), ?_, Sat.put I' h0 hn (fun s => RA_alloc I (look_sHas f3) 1 (hs s)) hd (by unfold RA; exact ⟨_, _, if_pos rfl, rfl⟩)⟩
  simp [execOp, Instr.box, newVar, newRow, newObj, Sem.run]

theorem run_storeN {T : TypeId} {s : Nat} (hs : szOf P T = some s) {b off : Nat} {u : Value} {w : World} {cur : Array Value} {t : TypeId} {fr : Nat × Nat} (hb : w.heap[b]? = some (.cells cur t fr)) (hfr : FrOk cur.size fr)
    (hl : u.cells.toList.length = s) (hin : off + s ≤ cur.size) (h1 : ∀ v ∈ u.cells.toList, v.oneCell' = true) :
    (Instr.storeAt T (.pointer (some ⟨b, off, none⟩)) u).run P w = .ok () (w.setCells b off u.cells.toList) := by
  have hst := run_storeCells_cells (P := P) b off u.cells.toList 0 w (fun j hj => by
    rw [cell_of_row w b _ cur t fr hb, Array.getElem?_eq_getElem (by omega)]; rfl) (fun j hj => by
    unfold World.frozen?; simp only [hb]
    rcases hfr with h0 | h0
    · subst h0; simp
    · simp; omega) h1
  simp only [Nat.add_zero] at hst
  rw [Array.length_toList] at hl
  simp [Instr.storeAt, Instr.sureAddr, storeVar, run_sizeOf hs, hl, hst]
theorem put_none {a : Act} {v : Value} : a.put none v = a := rfl
/-- A store into a variable of the call's own. -/
theorem S_storeBox {T : TypeId} {x y : Operand} {r off s : Nat} {cells : List AV} {t : TypeId} {v : AV} (hx : Gv (st.ev x) (.own r off)) (hy : Gv (st.ev y) v) (hs : szOf P T = some s) (hl : st.ob r = .box cells t)
    (h1 : allOne v.cs = true) (hlen : v.cs.length = s) (hin : off + s ≤ cells.length) : Step P E kp n ops ⟨none, .store T x y, ty, ps, af, none⟩ st (st.set r (.box (putL cells off v.cs) t)) := by
  refine Step.skip rfl fun a w ⟨φ, Pub, I, h0, hn, hsl⟩ => ?_
  have h := hx _ _ _ _ (ev_R (h := st.heap) hsl x)
  unfold RA at h
  obtain ⟨b, c, e0, e⟩ := h
  obtain ⟨c1, c2⟩ := cs_R h1 (hy _ _ _ _ (ev_R (h := st.heap) hsl y))
  have k := I.own r
  have hl' : look OB.dead st.heap r = .box cells t := hl
  rw [hl'] at k
  obtain ⟨b', cur, k1, k2, k3, k4, k5⟩ := k
  rw [e0] at k1; cases k1
  have hlc := RAs_length k3
  rw [Array.length_toList] at hlc
  obtain ⟨I', H⟩ := I.storeBox hl' e0 (o := off) c1 c2
  refine ⟨w.setCells b off (a.eval y).cells.toList, ?_, φ, Pub, I', h0, hn, fun q => RA_mono H _ _ (fun _ _ => rfl) (hsl q)⟩
  simp only [execOp, e]
  rw [Sem.run_bind, run_storeN hs k2 (.inl rfl) (by rw [RAs_length c1]; exact hlen) (by omega) c2]; rfl
/-- A store into a row of the call's own. -/
theorem S_storeRow {T : TypeId} {x y : Operand} {r off s sz pub : Nat} {cells qs : List PV} {t : TypeId} {v : AV} (hx : Gv (st.ev x) (.own r off)) (hy : Gv (st.ev y) v) (hs : szOf P T = some s) (hl : st.ob r = .row cells t sz pub)
    (h1 : allOne v.cs = true) (hq : AV.toPs v.cs = some qs) (hlen : qs.length = s) (hpub : pub ≤ off) (hin : off + s ≤ cells.length) : Step P E kp n ops ⟨none, .store T x y, ty, ps, af, none⟩ st (st.set r (.row (putL cells off qs) t sz pub)) := by
  refine Step.skip rfl fun a w ⟨φ, Pub, I, h0, hn, hsl⟩ => ?_
  have h := hx _ _ _ _ (ev_R (h := st.heap) hsl x)
  unfold RA at h
  obtain ⟨b, c, e0, e⟩ := h
  obtain ⟨c1, c2⟩ := cs_R h1 (hy _ _ _ _ (ev_R (h := st.heap) hsl y))
  have c1' := toPs_R hq c1
  have k := I.own r
  have hl' : look OB.dead st.heap r = .row cells t sz pub := hl
  rw [hl'] at k
  rcases k with ⟨k0, _⟩ | ⟨b', c', cur, fr, k1, ⟨k2, k2'⟩, k3, k4, k5, k6, k7, k8⟩
  · rw [e0] at k0; cases k0
  rw [e0] at k1; cases k1
  obtain ⟨I', H⟩ := I.storeRow hl' e0 c1' c2 hpub (by omega)
  refine ⟨w.setCells b off (a.eval y).cells.toList, ?_, φ, Pub, I', h0, hn, fun q => RA_mono H _ _ (fun _ _ => rfl) (hsl q)⟩
  simp only [execOp, e]
  rw [Sem.run_bind, run_storeN hs k2 k2' (by rw [RPs_length c1']; exact hlen) (by omega) c2]; rfl
section
variable {T : TypeId} {x y : Operand} {r off s : Nat} {cells : List AV} {t : TypeId} (hx : Gv (st.ev x) (.own r off)) (hs : szOf P T = some s) (hl : st.ob r = .box cells t)
include hx hs hl
theorem S_stP {q : PV} (hy : Gv (st.ev y) (.p q)) (h1 : allOne (AV.cs (.p q)) = true) (hlen : (AV.cs (.p q)).length = s) (hin : Nat.ble (off + s) cells.length = true) : Step P E kp n ops ⟨none, .store T x y, ty, ps, af, none⟩ st (st.set r (.box (putL cells off (AV.cs (.p q))) t)) :=
  S_storeBox hx hy hs hl h1 hlen (Nat.le_of_ble_eq_true hin)
theorem S_stAgg {q : List AV} (hy : Gv (st.ev y) (.agg q)) (h1 : allOne q = true) (hlen : q.length = s) (hin : Nat.ble (off + s) cells.length = true) : Step P E kp n ops ⟨none, .store T x y, ty, ps, af, none⟩ st (st.set r (.box (putL cells off q) t)) :=
  S_storeBox hx hy hs hl h1 hlen (Nat.le_of_ble_eq_true hin)
theorem S_stOwn {r' off' : Nat} (hy : Gv (st.ev y) (.own r' off')) (hlen : 1 = s) (hin : Nat.ble (off + s) cells.length = true) : Step P E kp n ops ⟨none, .store T x y, ty, ps, af, none⟩ st (st.set r (.box (putL cells off [.own r' off']) t)) :=
  S_storeBox hx hy hs hl rfl hlen (Nat.le_of_ble_eq_true hin)
theorem S_stOsl {r' m : Nat} (hy : Gv (st.ev y) (.osl r' m)) (hlen : 1 = s) (hin : Nat.ble (off + s) cells.length = true) : Step P E kp n ops ⟨none, .store T x y, ty, ps, af, none⟩ st (st.set r (.box (putL cells off [.osl r' m]) t)) :=
  S_storeBox hx hy hs hl rfl hlen (Nat.le_of_ble_eq_true hin)
end
section
variable {T : TypeId} {x : Operand} (r : Nat) (hf : st.free kp r = true) (hd : Nat.blt d n = true)
include hf hd
theorem S_boxP {q : PV} (hx : Gv (st.ev x) (.p q)) (h1 : allOne (AV.cs (.p q)) = true) (hy : hasL r (AV.cs (.p q)) = false) : Step P E kp n ops ⟨some d, .box T x, ty, ps, af, none⟩ st ⟨(d, .own r 0) :: st.slots, (r, .box (AV.cs (.p q)) T) :: st.heap⟩ := S_box r hx h1 hy hf hd
theorem S_boxAgg {q : List AV} (hx : Gv (st.ev x) (.agg q)) (h1 : allOne q = true) (hy : hasL r q = false) : Step P E kp n ops ⟨some d, .box T x, ty, ps, af, none⟩ st ⟨(d, .own r 0) :: st.slots, (r, .box q T) :: st.heap⟩ := S_box (y := .agg q) r hx h1 hy hf hd
theorem S_boxOsl {r' m : Nat} (hx : Gv (st.ev x) (.osl r' m)) (hy : hasL r [.osl r' m] = false) : Step P E kp n ops ⟨some d, .box T x, ty, ps, af, none⟩ st ⟨(d, .own r 0) :: st.slots, (r, .box [.osl r' m] T) :: st.heap⟩ := S_box (y := .osl r' m) r hx rfl hy hf hd
end
end
end Go.Proofs.Ytnopdnclefopbaa
