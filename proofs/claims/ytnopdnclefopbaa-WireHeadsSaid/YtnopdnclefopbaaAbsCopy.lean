/- 'copy' into a row of the call's own; negation; a division by a number that is not 0; what a contract over values without addresses says of a call from anywhere. They name no function of the program. -/
import Derived.Test.YtnopdnclefopbaaAbsCallH
namespace Go.Proofs.Ytnopdnclefopbaa
open Go.RowKit
set_option linter.unusedVariables false
set_option linter.unusedSimpArgs false

section
variable {P : Program} {E : Env} {kp : List Nat} {n : Nat} {ops : Array Oper} {st : AS} {d : Nat} {ty : TypeId} {ps : String} {af : Array Edge}
theorem run_copy_own {dT sT e : TypeId} (hu : P.underlying dT = some (.slice e)) (hs : szOf P e = some 1) {b m c k : Nat} {u : Value} {w : World} {cur : Array Value} {t : TypeId} {fr : Nat × Nat} (hb : w.heap[b]? = some (.cells cur t fr)) (hfr : FrOk cur.size fr)
    (hk : (Builtin.lenOf u).run P w = .ok k w) {vs : List Value} (hf : (Builtin.firstCells 1 (Nat.min k m) u).run P w = .ok vs.toArray w) (hl : vs.length = Nat.min k m) (hin : vs.length ≤ cur.size) (h1 : ∀ v ∈ vs, v.oneCell' = true) :
    (Builtin.copy_ #[dT, sT] ty #[.slice (some ⟨b, 0, none⟩) m c, u]).run P w = .ok (goInt vs.length) (w.setCells b 0 vs) := by
  have hst := run_storeCells_cells (P := P) b 0 vs 0 w (fun j hj => by
    rw [cell_of_row w b _ cur t fr hb, Array.getElem?_eq_getElem (by omega)]; rfl) (fun j hj => by
    unfold World.frozen?; simp only [hb]
    rcases hfr with h0 | h0
    · subst h0; simp
    · simp; omega) h1
  simp only [Nat.add_zero] at hst
  simp [Builtin.copy_, run_underlying hu, hk, run_sizeOf hs, hf, hst, hl]

theorem S_copyStr {T T2 e : TypeId} {x y : Operand} {r m sz pub : Nat} {cells : List PV} {l : List UInt8} (hx : Gv (st.ev x) (.osl r m)) (hl : st.ob r = .row cells e sz pub) (hy : Gv (st.ev y) (.p (strP l))) (hT : slOf P T = some (e, 1)) (hm : m ≤ cells.length) (hm0 : 0 < m) (hp : pub = 0) (hd : Nat.blt d n = true) :
    Step P E kp n ops ⟨some d, .call { callee := .builtin .copy, args := #[x, y], argTypes := #[T, T2] }, ty, ps, af, none⟩ st ((st.set r (.row (putL cells 0 ((l.take m).map b8P)) e sz pub)).put d (.p (i64P (Nat.min l.length m : Nat)))) := by
  refine Step.val rfl fun a w ⟨φ, Pub, I, h0, hn, hsl⟩ => ?_
  subst hp
  have h := hx _ _ _ _ (ev_R (h := st.heap) hsl x)
  have e1 := hy.v (ev_R (h := st.heap) hsl y)
  obtain ⟨t1, t2⟩ := sl_of hT
  have hmin : (l.take m).length = Nat.min l.length m := by rw [List.length_take]; exact Nat.min_comm _ _
  have hR := b8_RPs (w := w) (Pub := Pub) (l.take m)
  have h1 : ∀ u ∈ (l.take m).map (fun c => Value.int .u8 (c.toNat : Int)), u.oneCell' = true := by
    intro u hu; rw [List.mem_map] at hu; obtain ⟨c, _, rfl⟩ := hu; rfl
  have k := I.own r
  have hl' : look OB.dead st.heap r = .row cells e sz 0 := hl
  rw [hl'] at k
  have hlen : (Builtin.lenOf (.string ⟨l.toArray⟩)).run P w = .ok l.length w := rfl
  have hfc : (Builtin.firstCells 1 (Nat.min l.length m) (.string ⟨l.toArray⟩)).run P w = .ok ((l.take m).map fun c => Value.int .u8 (c.toNat : Int)).toArray w := by
    simp [Builtin.firstCells]
    exact Nat.min_comm _ _
  unfold RA at h
  rcases h with ⟨b, c, e2, e3, e4⟩ | ⟨e2, rfl, e3⟩
  · rcases k with ⟨k0, _⟩ | ⟨b', c', cur, fr, k1, ⟨k2, k2'⟩, k3, k4, k5, k6, k7, k8⟩
    · rw [e2] at k0; cases k0
    rw [e2] at k1; cases k1
    have hlv : ((l.take m).map fun c => Value.int .u8 (c.toNat : Int)).length = Nat.min l.length m := by rw [List.length_map]; exact hmin
    have hmm : Nat.min l.length m ≤ m := Nat.min_le_right _ _
    obtain ⟨I', H⟩ := I.storeRow (o := 0) hl' e2 hR h1 (Nat.zero_le _) (by rw [List.length_map, hmin]; omega)
    refine ⟨_, _, ?_, Sat.put (u := goInt (Nat.min l.length m)) I' h0 hn (fun q => RA_mono H _ _ (fun _ _ => rfl) (hsl q)) hd (by unfold RA RP; rfl)⟩
    have hr := run_copy_own (P := P) (sT := T2) (ty := ty) (c := c) t1 t2 k2 k2' hlen hfc hlv (by rw [hlv]; omega) h1
    simp only [execOp, resolve, invoke, builtin, Sem.run_bind, Sem.run_pure, Result.andThen_ok, List.map_toArray, List.map_cons, List.map_nil, e1, e3, hr, hlv]
  · omega
theorem S_copyBs {T T2 e : TypeId} {x y : Operand} {r m sz pub : Nat} {cells : List PV} {l : List UInt8} (hx : Gv (st.ev x) (.osl r m)) (hl : st.ob r = .row cells e sz pub) (hy : Gv (st.ev y) (.p (bytesP l))) (hT : slOf P T = some (e, 1)) (hm : m ≤ cells.length) (hm0 : 0 < m) (hp : pub = 0) (hd : Nat.blt d n = true) :
    Step P E kp n ops ⟨some d, .call { callee := .builtin .copy, args := #[x, y], argTypes := #[T, T2] }, ty, ps, af, none⟩ st ((st.set r (.row (putL cells 0 ((l.take m).map b8P)) e sz pub)).put d (.p (i64P (Nat.min l.length m : Nat)))) := by
  refine Step.val rfl fun a w ⟨φ, Pub, I, h0, hn, hsl⟩ => ?_
  subst hp
  have h := hx _ _ _ _ (ev_R (h := st.heap) hsl x)
  have hu := hy.p_ (ev_R (h := st.heap) hsl y)
  unfold bytesP RP at hu
  obtain ⟨ad, c0, e1, _, _, ha0, hu⟩ := hu
  obtain ⟨t1, t2⟩ := sl_of hT
  have hmin : (l.take m).length = Nat.min l.length m := by rw [List.length_take]; exact Nat.min_comm _ _
  have hR := b8_RPs (w := w) (Pub := Pub) (l.take m)
  have h1 : ∀ u ∈ (l.take m).map (fun c => Value.int .u8 (c.toNat : Int)), u.oneCell' = true := by
    intro u hu; rw [List.mem_map] at hu; obtain ⟨c, _, rfl⟩ := hu; rfl
  have k := I.own r
  have hl' : look OB.dead st.heap r = .row cells e sz 0 := hl
  rw [hl'] at k
  have hlen : (Builtin.lenOf (.slice ad l.length c0)).run P w = .ok l.length w := rfl
  have hml : ((l.take m).map fun c => Value.int .u8 (c.toNat : Int)).length = Nat.min l.length m * 1 := by rw [List.length_map, hmin, Nat.mul_one]
  have hfc : (Builtin.firstCells 1 (Nat.min l.length m) (.slice ad l.length c0)).run P w = .ok ((l.take m).map fun c => Value.int .u8 (c.toNat : Int)).toArray w := by
    cases ad with
    | none =>
      have hl0 : l = [] := by
        have := ha0 rfl
        exact List.eq_nil_of_length_eq_zero (by omega)
      subst hl0
      simp [Builtin.firstCells]
    | some ad =>
      refine run_firstCells_some w 1 _ ad _ _ _ hml fun j v hj => ?_
      rcases hu with h0 | ⟨b, o, e5, hc⟩
      · have hl0 : l = [] := List.eq_nil_of_length_eq_zero h0
        subst hl0; simp at hj
      · cases e5
        rw [List.getElem?_map, List.getElem?_take] at hj
        split at hj
        · cases hg : l[j]? with
          | none => rw [hg] at hj; cases hj
          | some q =>
            rw [hg] at hj
            obtain ⟨u, k1, _, _, k4⟩ := RPc_get hc (i := j) (x := b8P q) (by rw [List.getElem?_map, hg]; rfl)
            unfold b8P RP at k4
            cases hj; rw [k4] at k1
            rw [Addr.add_mid]; exact k1
        · cases hj
  unfold RA at h
  rcases h with ⟨b, c, e2, e3, e4⟩ | ⟨e2, rfl, e3⟩
  · rcases k with ⟨k0, _⟩ | ⟨b', c', cur, fr, k1, ⟨k2, k2'⟩, k3, k4, k5, k6, k7, k8⟩
    · rw [e2] at k0; cases k0
    rw [e2] at k1; cases k1
    have hlv : ((l.take m).map fun c => Value.int .u8 (c.toNat : Int)).length = Nat.min l.length m := by rw [List.length_map]; exact hmin
    have hmm : Nat.min l.length m ≤ m := Nat.min_le_right _ _
    obtain ⟨I', H⟩ := I.storeRow (o := 0) hl' e2 hR h1 (Nat.zero_le _) (by rw [List.length_map, hmin]; omega)
    refine ⟨_, _, ?_, Sat.put (u := goInt (Nat.min l.length m)) I' h0 hn (fun q => RA_mono H _ _ (fun _ _ => rfl) (hsl q)) hd (by unfold RA RP; rfl)⟩
    have hr := run_copy_own (P := P) (sT := T2) (ty := ty) (c := c) t1 t2 k2 k2' hlen hfc hlv (by rw [hlv]; omega) h1
    simp only [execOp, resolve, invoke, builtin, Sem.run_bind, Sem.run_pure, Result.andThen_ok, List.map_toArray, List.map_cons, List.map_nil, e1, e3, hr, hlv]
  · omega
theorem S_neg {x : Operand} {T : TypeId} {k : IntKind} {i r : Int} (hx : Gv (st.ev x) (.p (.v (.int k i)))) (hr : k.wrap (-i) = r) (hd : Nat.blt d n = true) :
    Step P E kp n ops ⟨some d, .unOp .neg T x, ty, ps, af, none⟩ st (st.put d (.p (.v (.int k r)))) :=
  S_pure _ rfl rfl hd fun a w φ Pub I hs => by
    have e1 := hx.v (hs x)
    exact ⟨.int k r, by simp [execOp, e1, Op.unary, Op.intArith, hr], by simp [RA, RP]⟩
theorem S_max8 {T1 T2 : TypeId} {x y : Operand} {i j : UInt8} (hx : Gv (st.ev x) (.p (b8P i))) (hy : Gv (st.ev y) (.p (.v (.int .u8 (j.toNat : Int))))) (hd : Nat.blt d n = true) (hty : P.underlying ty = some (.int .u8)) :
    Step P E kp n ops ⟨some d, .call { callee := .builtin .max, args := #[x, y], argTypes := #[T1, T2] }, ty, ps, af, none⟩ st (st.put d (.p (b8P (if i < j then j else i)))) :=
  S_call_pure _ hd fun a w φ Pub I hR => by
    have e1 := hx.v (hR x)
    have e2 := hy.v (hR y)
    refine ⟨.int .u8 ((if i < j then j else i).toNat : Int), ?_, by simp [RA, RP]⟩
    have e : ((if i < j then j else i).toNat : Int) = if (i.toNat : Int) < (j.toNat : Int) then (j.toNat : Int) else (i.toNat : Int) := by
      by_cases h : i < j
      · rw [if_pos h, if_pos (by have := UInt8.lt_iff_toNat_lt.1 h; omega)]
      · rw [if_neg h, if_neg (by intro h2; exact h (UInt8.lt_iff_toNat_lt.2 (by omega)))]
    rw [e]
    simp only [builtin, List.map_toArray, List.map_cons, List.map_nil, e1, e2]
    rfl
end
theorem bv8 (b : UInt8) : BitVec.ofInt 8 (b.toNat : Int) = b.toBitVec := by
  apply BitVec.eq_of_toNat_eq
  have := b.toNat_lt
  rw [BitVec.toNat_ofInt]; simp; omega
theorem u8xor (b c : UInt8) : IntKind.u8.wrap ((BitVec.ofInt IntKind.u8.bits (b.toNat : Int) ^^^ BitVec.ofInt IntKind.u8.bits (c.toNat : Int)).toNat : Int) = ((b ^^^ c).toNat : Int) := by
  show IntKind.u8.wrap ((BitVec.ofInt 8 (b.toNat : Int) ^^^ BitVec.ofInt 8 (c.toNat : Int)).toNat : Int) = _
  rw [bv8, bv8, ← UInt8.toBitVec_xor, u8w]
  have e : (b ^^^ c).toBitVec.toNat = (b ^^^ c).toNat := rfl
  rw [e, u8of_id]
theorem u8or (b c : UInt8) : IntKind.u8.wrap ((BitVec.ofInt IntKind.u8.bits (b.toNat : Int) ||| BitVec.ofInt IntKind.u8.bits (c.toNat : Int)).toNat : Int) = ((b ||| c).toNat : Int) := by
  show IntKind.u8.wrap ((BitVec.ofInt 8 (b.toNat : Int) ||| BitVec.ofInt 8 (c.toNat : Int)).toNat : Int) = _
  rw [bv8, bv8, ← UInt8.toBitVec_or, u8w]
  have e : (b ||| c).toBitVec.toNat = (b ||| c).toNat := rfl
  rw [e, u8of_id]
theorem u8and (b c : UInt8) : IntKind.u8.wrap ((BitVec.ofInt IntKind.u8.bits (b.toNat : Int) &&& BitVec.ofInt IntKind.u8.bits (c.toNat : Int)).toNat : Int) = ((b &&& c).toNat : Int) := by
  show IntKind.u8.wrap ((BitVec.ofInt 8 (b.toNat : Int) &&& BitVec.ofInt 8 (c.toNat : Int)).toNat : Int) = _
  rw [bv8, bv8, ← UInt8.toBitVec_and, u8w]
  have e : (b &&& c).toBitVec.toNat = (b &&& c).toNat := rfl
  rw [e, u8of_id]
theorem putL_map (l : List UInt8) (i : Nat) (x : UInt8) : putL (l.map b8P) i [b8P x] = (l.set i x).map b8P := by
  show (l.map b8P).set i (b8P x) = _
  rw [List.map_set]
theorem putL_copy {α : Type} (xs l : List α) (h : xs.length ≤ l.length) : putL l 0 xs = xs ++ l.drop xs.length := by
  have h2 := putL_app xs 0 l (by omega)
  apply List.ext_getElem?
  intro i
  rcases Nat.lt_or_ge i xs.length with hi | hi
  · have := congrArg (fun q => q[i]?) h2
    simp only [Nat.zero_add, List.take_zero, List.nil_append] at this
    rw [List.getElem?_take, if_pos hi] at this
    rw [this, List.getElem?_append_left hi]
  · rw [List.getElem?_append_right hi, List.getElem?_drop, show xs.length + (i - xs.length) = i from by omega]
    have : ∀ (xs : List α) (o : Nat) (l : List α) (i : Nat), o + xs.length ≤ i → (putL l o xs)[i]? = l[i]? := by
      intro xs
      induction xs with
      | nil => intro o l i _; rfl
      | cons x xs ih =>
        intro o l i hi
        show (putL (l.set o x) (o + 1) xs)[i]? = _
        rw [ih (o + 1) _ i (by simp at hi; omega), List.getElem?_set_ne (by simp at hi; omega)]
    exact this xs 0 l i (by omega)

/-! ### From a contract to a call from anywhere -/
theorem Ev.calls {P : Program} {f : FuncId} {args : List AV} {b : Bool} (h : Ev P f [] args [] (.p (.v (.bool b)))) {w : World} {vs : List Value} (Pub : Nat → Nat → Prop) (hp : ∀ b i, Pub b i → b < w.heap.size) (hR : RAs w Pub (fun _ => none) args vs) :
    Calls P f vs.toArray w fun e w' => e = .returned (.bool b) ∧ Below w.heap.size w w' := by
  refine (h ⟨w, fun _ => False, Pub, fun _ => none⟩ (fun _ => none) Pub w vs rfl rfl ⟨rfl, rfl, rfl, Nat.le_refl _, fun _ _ _ => rfl, fun r => ?_, fun r b c h1 => ?_, fun r r' b c c' h1 => ?_, fun _ _ k => k, fun _ _ k => .inl k, hp, fun _ _ _ => rfl, fun _ hr => ?_⟩ hR).mono fun e w' k => ?_
  · unfold Hp; simp [look]
  · simp [look, OB.alive] at h1
  · simp [look, OB.alive] at h1
  · rfl
  · obtain ⟨v, φ', Pub', rfl, I, k2⟩ := k
    unfold RA RP at k2
    subst k2
    exact ⟨rfl, I.os, I.tape, I.output, I.size, fun q hq => I.block q hq (fun x => x)⟩
abbrev rawP (kind a b : Int) (s : List UInt8) : PV := .agg [i64P kind, i64P a, i64P b, strP s]
theorem rawP_R {w : World} {Pub : Nat → Nat → Prop} (k a b : Int) (s : ByteArray) : RP w Pub (rawP k a b s.data.toList) (.agg #[.int .i64 k, .int .i64 a, .int .i64 b, .string s]) := by
  unfold RP
  exact ⟨[.int .i64 k, .int .i64 a, .int .i64 b, .string s], rfl, by unfold RPs; exact ⟨_, _, rfl, by unfold RP; rfl, by unfold RPs; exact ⟨_, _, rfl, by unfold RP; rfl, by unfold RPs; exact ⟨_, _, rfl, by unfold RP; rfl, by unfold RPs; exact ⟨_, _, rfl, by unfold RP; rfl, by unfold RPs; rfl⟩⟩⟩⟩⟩
theorem RAs_one {w : World} {Pub : Nat → Nat → Prop} {φ : Ghost} {x : PV} {u : Value} {xs : List AV} {us : List Value} (h : RP w Pub x u) (k : RAs w Pub φ xs us) : RAs w Pub φ (.p x :: xs) (u :: us) := by
  unfold RAs; exact ⟨u, us, rfl, by unfold RA; exact h, k⟩
theorem RAs_nil {w : World} {Pub : Nat → Nat → Prop} {φ : Ghost} : RAs w Pub φ [] [] := by unfold RAs; rfl
end Go.Proofs.Ytnopdnclefopbaa
