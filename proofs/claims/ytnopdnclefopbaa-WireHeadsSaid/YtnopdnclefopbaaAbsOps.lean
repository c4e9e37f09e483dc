/- One operation, over values without addresses: slices, appends, struct and slice literals, conversions, lengths; what may be forgotten or shared on the way. They name no function of the program. -/
import Derived.Test.YtnopdnclefopbaaAbsCode
import Derived.Laws.BytesString
namespace Go.Proofs.Ytnopdnclefopbaa
open Go.RowKit
set_option linter.unusedVariables false
set_option linter.unusedSimpArgs false

/-- A string; bytes. -/
abbrev strP (l : List UInt8) : PV := .v (.string ⟨l.toArray⟩)
abbrev b8P (c : UInt8) : PV := .v (.int .u8 (c.toNat : Int))
abbrev i64P (i : Int) : PV := .v (.int .i64 i)
abbrev boolP (b : Bool) : PV := .v (.bool b)
def bytesP (l : List UInt8) : PV := .sl (l.map b8P) l.length

section
variable {P : Program} {E : Env} {kp : List Nat} {n : Nat} {ops : Array Oper} {st st' : AS} {d : Nat} {ty : TypeId} {ps : String} {af : Array Edge}

theorem S_call_pure {b : Builtin} {args : Array Operand} {T : Array TypeId} (x : AV) (hd : Nat.blt d n = true)
    (h : ∀ (a : Act) (w : World) (φ : Ghost) (Pub : Nat → Nat → Prop), Inv E kp φ Pub st.heap w → (∀ y, RA w Pub φ (st.ev y) (a.eval y)) →
      ∃ u, (builtin b T ty (args.map fun | .const _ => true | _ => false) (args.map a.eval)).run P w = .ok (.value u) w ∧ RA w Pub φ x u) :
    Step P E kp n ops ⟨some d, .call { callee := .builtin b, args, argTypes := T }, ty, ps, af, none⟩ st (st.put d x) :=
  S_pure x rfl rfl hd fun a w φ Pub I hs => by
    obtain ⟨u, hr, hx⟩ := h a w φ Pub I hs
    refine ⟨u, ?_, hx⟩
    simp only [execOp, resolve, invoke, Sem.run_bind, Sem.run_pure, Result.andThen_ok]
    exact hr

section
variable {T : TypeId} {x : Operand} (hd : Nat.blt d n = true)
include hd
theorem S_lenSl {e s m : Nat} {cells : List PV} (hx : Gv (st.ev x) (.p (.sl cells m))) (hT : slOf P T = some (e, s)) : Step P E kp n ops ⟨some d, .call { callee := .builtin .len, args := #[x], argTypes := #[T] }, ty, ps, af, none⟩ st (st.put d (.p (i64P m))) :=
  S_call_pure _ hd fun a w φ Pub I hR => by
    have h := hx _ _ _ _ (hR x)
    unfold RA RP at h
    obtain ⟨ad, c, e1, _⟩ := h
    exact ⟨.int .i64 m, by simp [builtin, Builtin.len_, run_underlying (sl_of hT).1, e1, goInt], by simp [RA, RP]⟩
theorem S_lenNil {e s m c : Nat} {ad : Option Addr} (hx : Gv (st.ev x) (.p (.v (.slice ad m c)))) (hT : slOf P T = some (e, s)) : Step P E kp n ops ⟨some d, .call { callee := .builtin .len, args := #[x], argTypes := #[T] }, ty, ps, af, none⟩ st (st.put d (.p (i64P m))) :=
  S_call_pure _ hd fun a w φ Pub I hR => by
    have e1 := hx.v (hR x)
    exact ⟨.int .i64 m, by simp [builtin, Builtin.len_, run_underlying (sl_of hT).1, e1, goInt], by simp [RA, RP]⟩
theorem S_lenOsl {e s m r : Nat} (hx : Gv (st.ev x) (.osl r m)) (hT : slOf P T = some (e, s)) : Step P E kp n ops ⟨some d, .call { callee := .builtin .len, args := #[x], argTypes := #[T] }, ty, ps, af, none⟩ st (st.put d (.p (i64P m))) :=
  S_call_pure _ hd fun a w φ Pub I hR => by
    have h := hx _ _ _ _ (hR x)
    unfold RA at h
    rcases h with ⟨b, c, _, e1, _⟩ | ⟨_, rfl, e1⟩
    · exact ⟨.int .i64 m, by simp [builtin, Builtin.len_, run_underlying (sl_of hT).1, e1, goInt], by simp [RA, RP]⟩
    · exact ⟨.int .i64 0, by simp [builtin, Builtin.len_, run_underlying (sl_of hT).1, e1, goInt], by simp [RA, RP]⟩
theorem S_lenStr {l : List UInt8} (hx : Gv (st.ev x) (.p (strP l))) (hT : P.underlying T = some .string) : Step P E kp n ops ⟨some d, .call { callee := .builtin .len, args := #[x], argTypes := #[T] }, ty, ps, af, none⟩ st (st.put d (.p (i64P l.length))) :=
  S_call_pure _ hd fun a w φ Pub I hR => by
    have e1 := hx.v (hR x)
    have e2 : (⟨l.toArray⟩ : ByteArray).size = l.length := rfl
    exact ⟨.int .i64 l.length, by simp [builtin, Builtin.len_, run_underlying hT, e1, goInt, e2], by simp [RA, RP]⟩
end
section
variable {T1 T2 T3 T4 : TypeId} {x y : Operand} {i j : Int} (hx : Gv (st.ev x) (.p (i64P i))) (hy : Gv (st.ev y) (.p (i64P j))) (hd : Nat.blt d n = true)
include hx hy hd
theorem S_min (hty : P.underlying ty = some (.int .i64)) : Step P E kp n ops ⟨some d, .call { callee := .builtin .min, args := #[x, y], argTypes := #[T1, T2] }, ty, ps, af, none⟩ st (st.put d (.p (i64P (min i j)))) :=
  S_call_pure _ hd fun a w φ Pub I hR => by
    have e1 := hx.v (hR x)
    have e2 := hy.v (hR y)
    refine ⟨.int .i64 (min i j), ?_, by simp [RA, RP]⟩
    have e : min i j = if j < i then j else i := by split <;> omega
    rw [e]
    simp only [builtin, List.map_toArray, List.map_cons, List.map_nil, e1, e2]
    rfl
theorem S_max (hty : P.underlying ty = some (.int .i64)) : Step P E kp n ops ⟨some d, .call { callee := .builtin .max, args := #[x, y], argTypes := #[T1, T2] }, ty, ps, af, none⟩ st (st.put d (.p (i64P (max i j)))) :=
  S_call_pure _ hd fun a w φ Pub I hR => by
    have e1 := hx.v (hR x)
    have e2 := hy.v (hR y)
    refine ⟨.int .i64 (max i j), ?_, by simp [RA, RP]⟩
    have e : max i j = if i < j then j else i := by split <;> omega
    rw [e]
    simp only [builtin, List.map_toArray, List.map_cons, List.map_nil, e1, e2]
    rfl
end

/-! ### Conversions -/
theorem S_convInt {T T' : TypeId} {x : Operand} {k k' : IntKind} {dd : TypeDesc} {i r : Int} (hx : Gv (st.ev x) (.p (.v (.int k i)))) (h1 : P.underlying T = some dd) (h2 : P.underlying T' = some (.int k')) (hr : k'.wrap i = r) (hd : Nat.blt d n = true) :
    Step P E kp n ops ⟨some d, .convert T T' x, ty, ps, af, none⟩ st (st.put d (.p (.v (.int k' r)))) :=
  S_pure _ rfl rfl hd fun a w φ Pub I hR => by
    have e1 := hx.v (hR x)
    exact ⟨.int k' r, by simp [execOp, e1, convert, run_underlying h1, run_underlying h2, Conv.intToInt, hr], by simp [RA, RP]⟩
theorem S_convStr {T T' : TypeId} {x : Operand} {l : List UInt8} (hx : Gv (st.ev x) (.p (strP l))) (h1 : P.underlying T = some .string) (h2 : P.underlying T' = some .string) (hd : Nat.blt d n = true) :
    Step P E kp n ops ⟨some d, .convert T T' x, ty, ps, af, none⟩ st (st.put d (.p (strP l))) :=
  S_pure _ rfl rfl hd fun a w φ Pub I hR => by
    have e1 := hx.v (hR x)
    exact ⟨.string ⟨l.toArray⟩, by simp [execOp, e1, convert, run_underlying h1, run_underlying h2], by simp [RA, RP]⟩

theorem b8_vals {w : World} {Pub : Nat → Nat → Prop} : ∀ {l : List UInt8} {vs : List Value}, RPs w Pub (l.map b8P) vs → vs = l.map fun c => Value.int .u8 (c.toNat : Int)
  | [], vs, h => by simp only [List.map_nil] at h; unfold RPs at h; exact h
  | c :: l, vs, h => by
    rw [List.map_cons] at h; unfold RPs at h
    obtain ⟨u, us, rfl, h1, h2⟩ := h
    unfold RP at h1
    rw [b8_vals h2, h1]; rfl
theorem b8_RPs {w : World} {Pub : Nat → Nat → Prop} : ∀ (l : List UInt8), RPs w Pub (l.map b8P) (l.map fun c => Value.int .u8 (c.toNat : Int))
  | [] => by simp only [List.map_nil]; unfold RPs; rfl
  | c :: l => by rw [List.map_cons, List.map_cons]; unfold RPs; exact ⟨_, _, rfl, by unfold RP; rfl, b8_RPs l⟩
theorem fold_push (l : List UInt8) : ∀ (s : ByteArray), (l.map (fun b => (b.toNat : Int))).foldl (fun r n => r.push (UInt8.ofNat n.toNat)) s = ⟨s.data ++ l.toArray⟩ := by
  induction l with
  | nil => intro s; simp
  | cons b l ih => intro s; rw [List.map_cons, List.foldl_cons, ih]; simp [ByteArray.push]
theorem S_bytesStr {T T' e : TypeId} {x : Operand} {l : List UInt8} (hx : Gv (st.ev x) (.p (bytesP l))) (h1 : P.underlying T = some (.slice e)) (h3 : P.underlying e = some (.int .u8)) (h2 : P.underlying T' = some .string) (hd : Nat.blt d n = true) :
    Step P E kp n ops ⟨some d, .convert T T' x, ty, ps, af, none⟩ st (st.put d (.p (strP l))) :=
  S_pure _ rfl rfl hd fun a w φ Pub I hR => by
    have h := hx _ _ _ _ (hR x)
    unfold bytesP at h
    unfold RA RP at h
    obtain ⟨ad, c, e1, k1, k2, k3, k4⟩ := h
    refine ⟨.string ⟨l.toArray⟩, ?_, by simp [RA, RP]⟩
    have hrun : (convert T T' (a.eval x)).run P w = .ok (.string ⟨l.toArray⟩) w := by
      rw [e1, run_convert_bytes_string w T T' e ad l.length c h1 h3 h2]
      cases ad with
      | none =>
        have := k3 rfl
        have hl : l = [] := List.length_eq_zero_iff.1 (by omega)
        subst hl; rfl
      | some ad =>
        rcases k4 with k4 | ⟨b, o, e2, k4⟩
        · have hl : l = [] := List.length_eq_zero_iff.1 k4
          subst hl
          rw [run_bytesToString w ad _ c [] (by simp [loadCells, loadCellsFrom])]; rfl
        · injection e2 with e2; subst e2
          obtain ⟨vs, c1, c2, c3⟩ := RPc_vals k4
          have hv := b8_vals c1
          have hld : (loadCells ⟨b, o, none⟩ l.length).run P w = .ok ((l.map (fun b => (b.toNat : Int))).map (Value.int .u8)).toArray w := by
            have := run_loadCells_list (P := P) w ⟨b, o, none⟩ vs (fun j u hu => by rw [Addr.add_mid]; exact c3 j u hu)
            rw [hv] at this
            rw [List.map_map]
            simp only [List.length_map] at this
            exact this
          rw [run_bytesToString w _ l.length c _ hld, fold_push]
          simp [ByteArray.empty, ByteArray.emptyWithCapacity]
          rfl
    simp only [execOp]
    rw [Sem.run_bind, hrun]; rfl
theorem S_strBytes {T T' e : TypeId} {x : Operand} {l : List UInt8} (r : Nat) (hx : Gv (st.ev x) (.p (strP l))) (h1 : P.underlying T = some .string) (h2 : P.underlying T' = some (.slice e)) (h3 : P.underlying e = some (.int .u8)) (hlen : l.length ≤ 140737488355328)
    (hf : st.free kp r = true) (hd : Nat.blt d n = true) : Step P E kp n ops ⟨some d, .convert T T' x, ty, ps, af, none⟩ st ⟨(d, .osl r l.length) :: st.slots, (r, .row (l.map b8P) e 1 0) :: st.heap⟩ := by
  refine Step.val rfl fun a w ⟨φ, Pub, I, h0, hn, hs⟩ => ?_
  obtain ⟨f1, f2, f3, f4⟩ := free_split hf
  have e1 := hx.v (ev_R (h := st.heap) hs x)
  have hsz : (⟨l.toArray⟩ : ByteArray).size = l.length := rfl
  have hr := run_bytes_of_string (P := P) w T T' e ⟨l.toArray⟩ h1 h2 h3
  rw [hsz] at hr
  have hge := grownCap_ge w l.length 0 e
  have hcm : grownCap w l.length 0 e ≤ maxLen := grownCap_le_maxLen w l.length 0 e (by unfold maxLen; omega)
  have hbr : (bytesRow ⟨l.toArray⟩ (grownCap w l.length 0 e)).toList = (l.map fun c => Value.int .u8 (c.toNat : Int)) ++ List.replicate (grownCap w l.length 0 e - l.length) (.int .u8 0) := by
    simp [bytesRow, hsz]
  have hsize : (bytesRow ⟨l.toArray⟩ (grownCap w l.length 0 e)).size = grownCap w l.length 0 e := by
    rw [← Array.length_toList, hbr]; simp; omega
  have htk : (bytesRow ⟨l.toArray⟩ (grownCap w l.length 0 e)).toList.take (l.map b8P).length = l.map fun c => Value.int .u8 (c.toNat : Int) := by
    rw [hbr, show (l.map b8P).length = (l.map fun c => Value.int .u8 (c.toNat : Int)).length from by simp]; exact List.take_left
  have I' := I.drew.alloc f1 f2 f4 (.cells (bytesRow ⟨l.toArray⟩ (grownCap w l.length 0 e)) e ((bytesRow ⟨l.toArray⟩ (grownCap w l.length 0 e)).size, (bytesRow ⟨l.toArray⟩ (grownCap w l.length 0 e)).size + 1)) (grownCap w l.length 0 e)
    (ob := .row (l.map b8P) e 1 0) (.inr ⟨w.heap.size, _, _, _, if_pos rfl, ⟨heap_alloc_new w.drew _, .inr (Nat.le_refl _)⟩, hcm, by rw [hsize, Nat.mul_one], by rw [hsize]; simpa using hge, by rw [htk]; exact b8_RPs l, by
      rw [htk]; intro u hu; rw [List.mem_map] at hu; obtain ⟨c, _, rfl⟩ := hu; rfl, fun i hp => by have := I.publ _ _ hp; exact absurd this (Nat.lt_irrefl _)⟩)
  refine ⟨_, _, ?_, Sat.put I' h0 hn (fun s => RA_mono ((adv_drew).trans (adv_alloc I.drew _)) _ _ (fun q hq => if_neg (fun e => by subst e; rw [look_sHas f3] at hq; cases hq)) (hs s)) hd (u := .slice (some ⟨w.heap.size, 0, none⟩) l.length (grownCap w l.length 0 e)) (by unfold RA; exact .inl ⟨_, _, if_pos rfl, rfl, hge⟩)⟩
  simp only [execOp, e1]
  rw [Sem.run_bind, hr]; rfl

/-! ### Parts of slices and strings -/
theorem RP_sliced {w : World} {Pub : Nat → Nat → Prop} {cells : List PV} {m l h s c : Nat} {a : Option Addr} (hk : RP w Pub (.sl cells m) (.slice a m c)) (h1 : l ≤ h) (h2 : h ≤ m) (hlen : m * s ≤ cells.length) :
    RP w Pub (.sl ((cells.drop (l * s)).take ((h - l) * s)) (h - l)) (sliced a l h c s) := by
  unfold RP at hk ⊢
  obtain ⟨a', c', e, k1, k2, k3, k4⟩ := hk
  injection e with e1 e2 e3
  subst e1 e3
  refine ⟨_, _, rfl, by omega, by omega, fun ha => ?_, ?_⟩
  · split at ha
    · have := k3 ha; omega
    · cases a with
      | none => have := k3 rfl; omega
      | some a => cases ha
  · rcases Nat.eq_zero_or_pos (h - l) with h0 | h0
    · exact .inl h0
    · rcases k4 with k4 | ⟨b, o, rfl, k4⟩
      · omega
      · refine .inr ⟨b, o + l * s, ?_, RPc_take _ (RPc_drop _ k4)⟩
        rw [if_neg (by omega)]
        simp [Addr.add_mid]
theorem sl_elem {T e : TypeId} {s : Nat} (hT : slOf P T = some (e, s)) : P.elem T = e := by
  unfold Program.elem; rw [(sl_of hT).1]
section
variable {T e : TypeId} {x : Operand} {s m : Nat} {cells : List PV} {k : IntKind} {i j : Int} (hx : Gv (st.ev x) (.p (.sl cells m))) (hT : slOf P T = some (e, s)) (hlen : m * s ≤ cells.length) (hd : Nat.blt d n = true)
include hx hT hlen hd
theorem S_slLo {lo : Operand} (hlo : Gv (st.ev lo) (.p (.v (.int k i)))) (h0 : 0 ≤ i) (h1 : i ≤ m) :
    Step P E kp n ops ⟨some d, .slice T x (some lo) none none, ty, ps, af, none⟩ st (st.put d (.p (.sl ((cells.drop (i.toNat * s)).take ((m - i.toNat) * s)) (m - i.toNat)))) :=
  S_pure _ rfl rfl hd fun a w φ Pub I hR => by
    have h := hx _ _ _ _ (hR x)
    unfold RA at h
    have h' := h
    unfold RP at h'
    obtain ⟨ad, c, e1, _⟩ := h'
    rw [e1] at h
    have hu := (sl_of hT).1
    have hel := sl_elem hT
    refine ⟨sliced ad i.toNat m c s, ?_, by unfold RA; exact RP_sliced h (by omega) (Nat.le_refl _) hlen⟩
    have hu' : P.underlying T = some (.slice (P.elem T)) := by rw [hel]; exact hu
    simp only [execOp, e1, Option.map_some, Option.map_none, hlo.v (hR lo)]
    rw [Sem.run_bind, run_sliceAt_slice (w := w) T _ _ _ _ hu', run_slice_l (w := w) T ad m c hu' k i h0 h1, hel, run_sizeOf (sl_of hT).2]; rfl
theorem S_slHi {hi : Operand} (hhi : Gv (st.ev hi) (.p (.v (.int k j)))) (h0 : 0 ≤ j) (h1 : j ≤ m) :
    Step P E kp n ops ⟨some d, .slice T x none (some hi) none, ty, ps, af, none⟩ st (st.put d (.p (.sl (cells.take (j.toNat * s)) j.toNat))) :=
  S_pure _ rfl rfl hd fun a w φ Pub I hR => by
    have h := hx _ _ _ _ (hR x)
    unfold RA at h
    have h' := h
    unfold RP at h'
    obtain ⟨ad, c, e1, hmc, _⟩ := h'
    rw [e1] at h
    have hu := (sl_of hT).1
    have hel := sl_elem hT
    have hu' : P.underlying T = some (.slice (P.elem T)) := by rw [hel]; exact hu
    refine ⟨sliced ad 0 j.toNat c s, ?_, ?_⟩
    · simp only [execOp, e1, Option.map_some, Option.map_none, hhi.v (hR hi)]
      rw [Sem.run_bind, run_sliceAt_slice (w := w) T _ _ _ _ hu', run_slice_h (w := w) T ad m c hu' k j h0 (by omega), hel, run_sizeOf (sl_of hT).2]; rfl
    · have := RP_sliced h (Nat.zero_le j.toNat) (by omega) hlen
      unfold RA; simpa using this
theorem S_slLoHi {lo hi : Operand} {k' : IntKind} (hlo : Gv (st.ev lo) (.p (.v (.int k i)))) (hhi : Gv (st.ev hi) (.p (.v (.int k' j)))) (h0 : 0 ≤ i) (h1 : i ≤ j) (h2 : j ≤ m) :
    Step P E kp n ops ⟨some d, .slice T x (some lo) (some hi) none, ty, ps, af, none⟩ st (st.put d (.p (.sl ((cells.drop (i.toNat * s)).take ((j.toNat - i.toNat) * s)) (j.toNat - i.toNat)))) :=
  S_pure _ rfl rfl hd fun a w φ Pub I hR => by
    have h := hx _ _ _ _ (hR x)
    unfold RA at h
    have h' := h
    unfold RP at h'
    obtain ⟨ad, c, e1, hmc, _⟩ := h'
    rw [e1] at h
    have hu := (sl_of hT).1
    have hel := sl_elem hT
    have hu' : P.underlying T = some (.slice (P.elem T)) := by rw [hel]; exact hu
    refine ⟨sliced ad i.toNat j.toNat c s, ?_, by unfold RA; exact RP_sliced h (by omega) (by omega) hlen⟩
    simp only [execOp, e1, Option.map_some, Option.map_none, hlo.v (hR lo), hhi.v (hR hi)]
    rw [Sem.run_bind, run_sliceAt_slice (w := w) T _ _ _ _ hu', run_slice_lh (w := w) T ad m c hu' k k' i j h0 h1 (by omega), hel, run_sizeOf (sl_of hT).2]; rfl
end
theorem b8_get {l : List UInt8} {i : Nat} (h : i < l.length) : (l.map b8P)[i]? = some (b8P (l.getD i 0)) := by
  rw [List.getElem?_map, List.getElem?_eq_getElem h, List.getD_eq_getElem?_getD, List.getElem?_eq_getElem h]; rfl
/-- A byte out of shared bytes. -/
theorem S_loadByte {T : TypeId} {x : Operand} {l : List UInt8} {off : Nat} (hd : Nat.blt d n = true) (hx : Gv (st.ev x) (.p (.pp (l.map b8P) off))) (hT : aggOf P T = some false) (h : off < l.length) :
    Step P E kp n ops ⟨some d, .load T x, ty, ps, af, none⟩ st (st.put d (.p (b8P (l.getD off 0)))) := S_loadPp hd hx hT (b8_get h)
theorem S_loadByteR {T t : TypeId} {x : Operand} {l : List UInt8} {r off sz pub : Nat} (hd : Nat.blt d n = true) (hx : Gv (st.ev x) (.own r off)) (hT : aggOf P T = some false) (hl : st.ob r = .row (l.map b8P) t sz pub) (h : off < l.length) :
    Step P E kp n ops ⟨some d, .load T x, ty, ps, af, none⟩ st (st.put d (.p (b8P (l.getD off 0)))) := S_loadRow hd hx hT hl (b8_get h)
/-! Parts of bytes. -/
section
variable {T e : TypeId} {x : Operand} {l : List UInt8} {k : IntKind} {i j : Int} {p q : Nat} (hx : Gv (st.ev x) (.p (bytesP l))) (hT : slOf P T = some (e, 1)) (hd : Nat.blt d n = true)
include hx hT hd
theorem S_byLo {lo : Operand} (hlo : Gv (st.ev lo) (.p (.v (.int k i)))) (hi : i.toNat = p) (h0 : 0 ≤ i) (h1 : i ≤ l.length) :
    Step P E kp n ops ⟨some d, .slice T x (some lo) none none, ty, ps, af, none⟩ st (st.put d (.p (bytesP (l.drop p)))) := by
  subst hi
  have h := S_slLo (st := st) (P := P) (E := E) (kp := kp) (n := n) (ops := ops) (ty := ty) (ps := ps) (af := af) hx hT (by simp) hd hlo h0 h1
  have e : PV.sl (((l.map b8P).drop (i.toNat * 1)).take ((l.length - i.toNat) * 1)) (l.length - i.toNat) = bytesP (l.drop i.toNat) := by
    unfold bytesP
    rw [Nat.mul_one, Nat.mul_one, List.take_of_length_le (by simp), List.length_drop, List.map_drop]
  rw [e] at h; exact h
theorem S_byHi {hi : Operand} (hhi : Gv (st.ev hi) (.p (.v (.int k j)))) (hj : j.toNat = q) (h0 : 0 ≤ j) (h1 : j ≤ l.length) :
    Step P E kp n ops ⟨some d, .slice T x none (some hi) none, ty, ps, af, none⟩ st (st.put d (.p (bytesP (l.take q)))) := by
  subst hj
  have h := S_slHi (st := st) (P := P) (E := E) (kp := kp) (n := n) (ops := ops) (ty := ty) (ps := ps) (af := af) hx hT (by simp) hd hhi h0 h1
  have e : PV.sl ((l.map b8P).take (j.toNat * 1)) j.toNat = bytesP (l.take j.toNat) := by
    unfold bytesP
    rw [Nat.mul_one, List.length_take, Nat.min_eq_left (by omega), List.map_take]
  rw [e] at h; exact h
theorem S_byLoHi {lo hi : Operand} {k' : IntKind} (hlo : Gv (st.ev lo) (.p (.v (.int k i)))) (hhi : Gv (st.ev hi) (.p (.v (.int k' j)))) (hi' : i.toNat = p) (hj : j.toNat = q) (h0 : 0 ≤ i) (h1 : i ≤ j) (h2 : j ≤ l.length) :
    Step P E kp n ops ⟨some d, .slice T x (some lo) (some hi) none, ty, ps, af, none⟩ st (st.put d (.p (bytesP ((l.drop p).take (q - p))))) := by
  subst hi' hj
  have h := S_slLoHi (st := st) (P := P) (E := E) (kp := kp) (n := n) (ops := ops) (ty := ty) (ps := ps) (af := af) hx hT (by simp) hd hlo hhi h0 h1 h2
  have e : PV.sl (((l.map b8P).drop (i.toNat * 1)).take ((j.toNat - i.toNat) * 1)) (j.toNat - i.toNat) = bytesP ((l.drop i.toNat).take (j.toNat - i.toNat)) := by
    unfold bytesP
    rw [Nat.mul_one, Nat.mul_one, List.length_take, List.length_drop, Nat.min_eq_left (by omega), List.map_take, List.map_drop]
  rw [e] at h; exact h
end
end
end Go.Proofs.Ytnopdnclefopbaa
