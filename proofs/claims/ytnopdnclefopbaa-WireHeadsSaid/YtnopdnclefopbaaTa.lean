/- A row of which each column has one kind of value, seen as a function of the place: so that an element may be taken at a place that is not a numeral. It names no function of the program. -/
import Derived.Test.YtnopdnclefopbaaTz
namespace Go.Proofs.Ytnopdnclefopbaa
open Go.RowKit
set_option linter.unusedVariables false
set_option linter.unusedSimpArgs false

def homI : List EV → Option (List Int)
  | [] => some []
  | x :: l => match asI64 x with
    | some i => match homI l with
      | some q => some (i :: q)
      | none => none
    | none => none
def homS : List EV → Option (List (List UInt8))
  | [] => some []
  | x :: l => match asS x with
    | some i => match homS l with
      | some q => some (i :: q)
      | none => none
    | none => none
def homB : List EV → Option (List Bool)
  | [] => some []
  | x :: l => match asB x with
    | some i => match homB l with
      | some q => some (i :: q)
      | none => none
    | none => none
def homU : List EV → Option (List UInt32)
  | [] => some []
  | x :: l => match asU32 x with
    | some i => match homU l with
      | some q => some (i :: q)
      | none => none
    | none => none
/-- One column. -/
def homE (l : List EV) : Option (Nat → EV) :=
  match homI l with
  | some q => some fun i => .i (q.getD i 0)
  | none => match homS l with
    | some q => some fun i => .s (q.getD i [])
    | none => match homU l with
      | some q => some fun i => .u32 (q.getD i 0)
      | none => match homB l with
        | some q => some fun i => .b (q.getD i false)
        | none => match u8sE l with
          | some q => some fun i => .u8 (q.getD i 0)
          | none => none
def hdE : List EV → EV
  | [] => .any
  | x :: _ => x
/-- Every s-th of n. -/
def colE (s : Nat) : Nat → List EV → List EV
  | 0, _ => []
  | n + 1, l => hdE l :: colE s n (dpE s l)
def homC (n s : Nat) : Nat → List EV → Option (List (Nat → EV))
  | 0, _ => some []
  | k + 1, l => match homE (colE s n l) with
    | some f => match homC n s k (dpE 1 l) with
      | some fs => some (f :: fs)
      | none => none
    | none => none
def selFn : List (Nat → EV) → Nat → Nat → EV
  | [], _, _ => .any
  | f :: _, i, 0 => f i
  | _ :: fs, i, j + 1 => selFn fs i j
def selF (tab : TT) (vs : List (Nat × EV)) (bs : List (Nat × EB)) (d : Nat) (T : TypeId) (x : Operand) (y : EV) : Option RS :=
  match frz vs bs x with
  | some (.sl cells n, R) => match tab.find T with
    | some ⟨.sl _ s _ _, _, _, _, _⟩ => bif Nat.beq cells.length (n * s) then (match homC n s s cells with
      | some fs => match idxF tab T (.lz n s (fun i j => selFn fs i j)) y with
        | some (C, z) => some ⟨R.C ++ C, (d, z) :: R.sl, R.hp⟩
        | none => none
      | none => none) else none
    | _ => none
  | _ => none

theorem homI_ok : ∀ {l : List EV} {q : List Int}, homI l = some q → l.map EV.pv = q.map (fun i => (EV.i i).pv)
  | [], q, h => by cases h; rfl
  | x :: l, q, h => by
    unfold homI at h
    split at h
    · next i hi =>
      split at h
      · next q' hq => cases h; rw [List.map_cons, List.map_cons, homI_ok hq, asI64_eq hi]
      · cases h
    · cases h
theorem homS_ok : ∀ {l : List EV} {q : List (List UInt8)}, homS l = some q → l.map EV.pv = q.map (fun i => (EV.s i).pv)
  | [], q, h => by cases h; rfl
  | x :: l, q, h => by
    unfold homS at h
    split at h
    · next i hi =>
      split at h
      · next q' hq => cases h; rw [List.map_cons, List.map_cons, homS_ok hq, asS_eq hi]
      · cases h
    · cases h
theorem homB_ok : ∀ {l : List EV} {q : List Bool}, homB l = some q → l.map EV.pv = q.map (fun i => (EV.b i).pv)
  | [], q, h => by cases h; rfl
  | x :: l, q, h => by
    unfold homB at h
    split at h
    · next i hi =>
      split at h
      · next q' hq => cases h; rw [List.map_cons, List.map_cons, homB_ok hq, asB_eq hi]
      · cases h
    · cases h
theorem asU32_pv {x : EV} {c : UInt32} (h : asU32 x = some c) : x.pv = (EV.u32 c).pv := by
  unfold asU32 at h
  split at h
  · cases h; rfl
  · next m =>
    cases hb : Nat.blt m 4294967296 with
    | false => rw [hb] at h; cases h
    | true =>
      rw [hb] at h; cases h
      have hm : m < 4294967296 := by simpa [Nat.blt_eq] using hb
      unfold EV.pv u32P
      rw [UInt32.toNat_ofNat', Nat.mod_eq_of_lt (by simpa using hm)]; rfl
  · cases h
theorem homU_ok : ∀ {l : List EV} {q : List UInt32}, homU l = some q → l.map EV.pv = q.map (fun i => (EV.u32 i).pv)
  | [], q, h => by cases h; rfl
  | x :: l, q, h => by
    unfold homU at h
    split at h
    · next i hi =>
      split at h
      · next q' hq => cases h; rw [List.map_cons, List.map_cons, homU_ok hq, asU32_pv hi]
      · cases h
    · cases h
theorem map_getD {α : Type} {l : List EV} {q : List α} {k : α → EV} {d : α} (h : l.map EV.pv = q.map (fun i => (k i).pv)) (i : Nat) (hi : i < l.length) : (k (q.getD i d)).pv = (l[i]).pv := by
  have hlen : l.length = q.length := by simpa using congrArg List.length h
  have hi' : i < q.length := by omega
  have e := congrArg (fun m => m[i]?) h
  simp only [List.getElem?_map] at e
  rw [List.getElem?_eq_getElem hi, List.getElem?_eq_getElem hi'] at e
  simp only [Option.map_some, Option.some.injEq] at e
  rw [List.getD_eq_getElem?_getD, List.getElem?_eq_getElem hi', e]; rfl
theorem homE_ok {l : List EV} {f : Nat → EV} (h : homE l = some f) (i : Nat) (hi : i < l.length) : (f i).pv = (l[i]).pv := by
  unfold homE at h
  split at h
  · next q hq => cases h; exact map_getD (homI_ok hq) i hi
  · split at h
    · next q hq => cases h; exact map_getD (homS_ok hq) i hi
    · split at h
      · next q hq => cases h; exact map_getD (homU_ok hq) i hi
      · split at h
        · next q hq => cases h; exact map_getD (homB_ok hq) i hi
        · split at h
          · next q hq =>
            cases h
            refine map_getD (k := EV.u8) ?_ i hi
            have e := (u8sE_ok hq).1
            rw [pvL_map] at e
            exact e
          · cases h
theorem colE_len (s : Nat) : ∀ (n : Nat) (l : List EV), (colE s n l).length = n
  | 0, _ => rfl
  | n + 1, l => by simp [colE, colE_len s n]
theorem hdE_get (l : List EV) : hdE l = l.getD 0 .any := by cases l <;> rfl
theorem colE_get (s : Nat) : ∀ (n : Nat) (l : List EV) (i : Nat) (h : i < (colE s n l).length), (colE s n l)[i] = l.getD (i * s) .any
  | 0, l, i, h => by simp [colE] at h
  | n + 1, l, 0, h => by simp [colE, hdE_get]
  | n + 1, l, i + 1, h => by
    have h' : i < (colE s n (dpE s l)).length := by simpa [colE] using h
    show (colE s n (dpE s l))[i] = _
    rw [colE_get s n (dpE s l) i h', dpE_eq, List.getD_eq_getElem?_getD, List.getD_eq_getElem?_getD, List.getElem?_drop, Nat.succ_mul, Nat.add_comm s]
theorem homC_ok {n s : Nat} : ∀ {k : Nat} {l : List EV} {fs : List (Nat → EV)}, homC n s k l = some fs → ∀ j, j < k → ∀ i, i < n → (selFn fs i j).pv = (l.getD (i * s + j) .any).pv
  | 0, _, _, _, j, hj, _, _ => by omega
  | k + 1, l, fs, h, j, hj, i, hi => by
    unfold homC at h
    split at h
    · next f hf =>
      split at h
      · next fs' hfs =>
        cases h
        cases j with
        | zero =>
          show (f i).pv = _
          rw [homE_ok hf i (by rw [colE_len]; exact hi), colE_get]; rfl
        | succ j =>
          show (selFn fs' i j).pv = _
          rw [homC_ok hfs j (by omega) i hi, dpE_eq, List.getD_eq_getElem?_getD, List.getD_eq_getElem?_getD, List.getElem?_drop]
          rw [show 1 + (i * s + j) = i * s + (j + 1) from by omega]
      · cases h
    · cases h
theorem lz_of {n s : Nat} {cells : List EV} {f : Nat → Nat → EV} (hl : cells.length = n * s) (hf : ∀ j, j < s → ∀ i, i < n → (f i j).pv = (cells.getD (i * s + j) .any).pv) : lzC n s f = pvL cells := by
  apply List.ext_getElem?
  intro k
  by_cases hk : k < n * s
  · have hs : 0 < s := by
      rcases Nat.eq_zero_or_pos s with h | h
      · subst h; simp at hk
      · exact h
    have hj : k % s < s := Nat.mod_lt _ hs
    have hi : k / s < n := (Nat.div_lt_iff_lt_mul hs).2 hk
    have e : k / s * s + k % s = k := by rw [Nat.mul_comm]; exact Nat.div_add_mod k s
    have g := lz_get n s f hi hj
    rw [e] at g
    rw [g, hf _ hj _ hi, e, pvL_get, List.getElem?_eq_getElem (by omega), List.getD_eq_getElem?_getD, List.getElem?_eq_getElem (by omega)]; rfl
  · rw [List.getElem?_eq_none (by rw [lz_len]; omega), List.getElem?_eq_none (by rw [pvL_length]; omega)]
section
variable {P : Program} {E : Env} {kp : List Nat} {n : Nat} {ops : Array Oper} {d : Nat} {ty : TypeId} {ps : String} {af : Array Edge}
variable {tab : TT} {vs : List (Nat × EV)} {bs : List (Nat × EB)} {st : ES}
theorem selF_ok {T : TypeId} {x y : Operand} {R : RS} (hP : tab.ok P) (S : Sub vs bs st) (h : selF tab vs bs d T x (evOf vs y) = some R) (hC : ∀ c ∈ R.C, c) (hd : Nat.blt d n = true) :
    Step P E kp n ops ⟨some d, .indexAddr T x y, ty, ps, af, none⟩ st.as (R.app st).as := by
  unfold selF at h
  split at h
  · next cells m R' hR =>
    split at h
    · next s _ _ _ _ _ _ hti =>
      cases hb : Nat.beq cells.length (m * s) with
      | false => rw [hb] at h; cases h
      | true =>
        rw [hb] at h
        simp only [cond_true] at h
        split at h
        · next fs hfs =>
          split at h
          · next C z hz =>
            cases h
            have hC1 : ∀ c ∈ R'.C, c := fun c hc => hC c (List.mem_append_left _ hc)
            have hC2 : ∀ c ∈ C, c := fun c hc => hC c (List.mem_append_right _ hc)
            obtain ⟨k1, k2, k3⟩ := frz_ok (E := E) (kp := kp) (n := n) S hR hC1
            have e : (EV.lz m s (fun i j => selFn fs i j)).av = (EV.sl cells m).av := by
              show AV.p (.sl (lzC m s _) m) = AV.p (.sl (pvL cells) m)
              rw [lz_of (nat_eq hb) (fun j hj i hi => homC_ok hfs j hj i hi)]
            refine (idxF_ok (st := (R'.app st).as) (v := evOf vs y) hP hz hC2 hd (by rw [e]; exact k2) ?_).pre k1
            have hi : (asInt (evOf vs y)).isSome = true := by
              unfold idxF at hz
              split at hz
              · cases hz
              · next p q hq => rw [hq]; rfl
            rw [k3 y (fun r q e => by rw [e] at hi; cases hi)]
            exact S.v y
          · cases h
        · cases h
    · cases h
  · cases h
end
end Go.Proofs.Ytnopdnclefopbaa
