/- What is computed of an operation on numbers, bytes, words and strings is so. It names no function of the program. -/
import Derived.Test.YtnopdnclefopbaaTs
import Derived.IntWalk
import Derived.Laws.BitsAllLaws
import Derived.ChangeKeysEq
namespace Go.Proofs.Ytnopdnclefopbaa
open Go.RowKit
set_option linter.unusedVariables false
set_option linter.unusedSimpArgs false

theorem nat_eq {a b : Nat} (h : Nat.beq a b = true) : a = b := Nat.eq_of_beq_eq_true h
theorem asI64_eq {x : EV} {i : Int} (h : asI64 x = some i) : x = .i i := by
  unfold asI64 at h; split at h <;> cases h; rfl
theorem asB_eq {x : EV} {i : Bool} (h : asB x = some i) : x = .b i := by
  unfold asB at h; split at h <;> cases h; rfl
theorem asS_eq {x : EV} {i : List UInt8} (h : asS x = some i) : x = .s i := by
  unfold asS at h; split at h <;> cases h; rfl
theorem nilP_ok {x : EV} {b : Bool} (h : nilP x = some b) {y : AV} (g : Gv y x.av) : isPtr b y := by
  unfold nilP at h
  split at h <;> cases h <;> intro w Pub φ u hu <;> have k := g _ _ _ _ hu <;> (first | unfold EV.av at k | skip) <;> (first | unfold EV.pv at k | skip) <;> unfold RA at k
  · unfold RP at k; exact ⟨none, k, rfl⟩
  · unfold RP at k; obtain ⟨b, o, e, _⟩ := k; exact ⟨_, e, rfl⟩
  · unfold RP at k; obtain ⟨b, o, e, _⟩ := k; exact ⟨_, e, rfl⟩
  · unfold RP at k; obtain ⟨b, o, e, _⟩ := k; exact ⟨_, e, rfl⟩
  · obtain ⟨b, c, _, e⟩ := k; exact ⟨_, e, rfl⟩
  · obtain ⟨b, c, _, e⟩ := k; exact ⟨_, e, rfl⟩
theorem isNilE_ok {x : EV} (h : isNilE x = true) : x = .v (.pointer none) := by
  unfold isNilE at h; split at h
  · rfl
  · cases h
theorem asInt_gv {x : EV} {k : IntKind} {i : Int} (h : asInt x = some (k, i)) : Gv x.av (.p (.v (.int k i))) := by
  unfold asInt at h; split at h <;> cases h <;> exact Gv.r
theorem asU8_gv {x : EV} {c : UInt8} (h : asU8 x = some c) : Gv x.av (.p (b8P c)) := by
  unfold asU8 at h
  split at h
  · cases h; exact Gv.r
  · next m =>
    cases hb : Nat.blt m 256 with
    | false => rw [hb] at h; cases h
    | true =>
      rw [hb] at h; cases h
      rw [Nat.blt_eq] at hb
      have e : ((UInt8.ofNat m).toNat : Int) = Int.ofNat m := by rw [UInt8.toNat_ofNat']; simp; omega
      show Gv (.p (.v (.int .u8 (Int.ofNat m)))) (.p (.v (.int .u8 ((UInt8.ofNat m).toNat : Int))))
      rw [e]; exact Gv.r
  · cases h
theorem asU32_gv {x : EV} {c : UInt32} (h : asU32 x = some c) : Gv x.av (.p (u32P c)) := by
  unfold asU32 at h
  split at h
  · cases h; exact Gv.r
  · next m =>
    cases hb : Nat.blt m 4294967296 with
    | false => rw [hb] at h; cases h
    | true =>
      rw [hb] at h; cases h
      rw [Nat.blt_eq] at hb
      have e : ((UInt32.ofNat m).toNat : Int) = Int.ofNat m := by rw [UInt32.toNat_ofNat']; simp; omega
      show Gv (.p (.v (.int .u32 (Int.ofNat m)))) (.p (.v (.int .u32 ((UInt32.ofNat m).toNat : Int))))
      rw [e]; exact Gv.r
  · cases h
theorem bv32 (c : UInt32) : BitVec.ofInt 32 (c.toNat : Int) = c.toBitVec := by
  apply BitVec.eq_of_toNat_eq
  have := c.toNat_lt
  rw [BitVec.toNat_ofInt]
  show _ = c.toNat
  simp only [Nat.reducePow, Int.cast_ofNat_Int]
  omega
theorem u32id (c : UInt32) : IntKind.u32.wrap (c.toNat : Int) = (c.toNat : Int) := by
  have := c.toNat_lt
  rw [IntKind.wrap_u32]; omega
theorem u32xor (b c : UInt32) : IntKind.u32.wrap ((BitVec.ofInt IntKind.u32.bits (b.toNat : Int) ^^^ BitVec.ofInt IntKind.u32.bits (c.toNat : Int)).toNat : Int) = ((b ^^^ c).toNat : Int) := by
  show IntKind.u32.wrap ((BitVec.ofInt 32 (b.toNat : Int) ^^^ BitVec.ofInt 32 (c.toNat : Int)).toNat : Int) = _
  rw [bv32, bv32, ← UInt32.toBitVec_xor]; exact u32id _
theorem u32or (b c : UInt32) : IntKind.u32.wrap ((BitVec.ofInt IntKind.u32.bits (b.toNat : Int) ||| BitVec.ofInt IntKind.u32.bits (c.toNat : Int)).toNat : Int) = ((b ||| c).toNat : Int) := by
  show IntKind.u32.wrap ((BitVec.ofInt 32 (b.toNat : Int) ||| BitVec.ofInt 32 (c.toNat : Int)).toNat : Int) = _
  rw [bv32, bv32, ← UInt32.toBitVec_or]; exact u32id _
theorem u32and (b c : UInt32) : IntKind.u32.wrap ((BitVec.ofInt IntKind.u32.bits (b.toNat : Int) &&& BitVec.ofInt IntKind.u32.bits (c.toNat : Int)).toNat : Int) = ((b &&& c).toNat : Int) := by
  show IntKind.u32.wrap ((BitVec.ofInt 32 (b.toNat : Int) &&& BitVec.ofInt 32 (c.toNat : Int)).toNat : Int) = _
  rw [bv32, bv32, ← UInt32.toBitVec_and]; exact u32id _
theorem u32andNot (b c : UInt32) : IntKind.u32.wrap ((BitVec.ofInt IntKind.u32.bits (b.toNat : Int) &&& ~~~ BitVec.ofInt IntKind.u32.bits (c.toNat : Int)).toNat : Int) = ((b &&& ~~~c).toNat : Int) := by
  show IntKind.u32.wrap ((BitVec.ofInt 32 (b.toNat : Int) &&& ~~~ BitVec.ofInt 32 (c.toNat : Int)).toNat : Int) = _
  rw [bv32, bv32, ← UInt32.toBitVec_not, ← UInt32.toBitVec_and]; exact u32id _
theorem u32add (b c : UInt32) : IntKind.u32.wrap ((b.toNat : Int) + (c.toNat : Int)) = ((b + c).toNat : Int) := by
  rw [IntKind.wrap_u32, UInt32.toNat_add]; simp
theorem u32sub (b c : UInt32) : IntKind.u32.wrap ((b.toNat : Int) - (c.toNat : Int)) = ((b - c).toNat : Int) := by
  have := b.toNat_lt; have := c.toNat_lt
  rw [IntKind.wrap_u32, UInt32.toNat_sub]; simp; omega
theorem asU64_gv {x : EV} {c : UInt64} (h : asU64 x = some c) : Gv x.av (.p (u64P c)) := by
  unfold asU64 at h
  split at h
  · cases h; exact Gv.r
  · next m =>
    cases hb : Nat.blt m 18446744073709551616 with
    | false => rw [hb] at h; cases h
    | true =>
      rw [hb] at h; cases h
      rw [Nat.blt_eq] at hb
      have e : ((UInt64.ofNat m).toNat : Int) = Int.ofNat m := by rw [UInt64.toNat_ofNat']; simp; omega
      show Gv (.p (.v (.int .u64 (Int.ofNat m)))) (.p (.v (.int .u64 ((UInt64.ofNat m).toNat : Int))))
      rw [e]; exact Gv.r
  · cases h
theorem bv64 (c : UInt64) : BitVec.ofInt 64 (c.toNat : Int) = c.toBitVec := by
  apply BitVec.eq_of_toNat_eq
  have := c.toNat_lt
  rw [BitVec.toNat_ofInt]
  show _ = c.toNat
  simp only [Nat.reducePow, Int.cast_ofNat_Int]
  omega
theorem u64id (c : UInt64) : IntKind.u64.wrap (c.toNat : Int) = (c.toNat : Int) := by
  have := c.toNat_lt
  rw [IntKind.wrap_u64]; omega
theorem u64xor (b c : UInt64) : IntKind.u64.wrap ((BitVec.ofInt IntKind.u64.bits (b.toNat : Int) ^^^ BitVec.ofInt IntKind.u64.bits (c.toNat : Int)).toNat : Int) = ((b ^^^ c).toNat : Int) := by
  show IntKind.u64.wrap ((BitVec.ofInt 64 (b.toNat : Int) ^^^ BitVec.ofInt 64 (c.toNat : Int)).toNat : Int) = _
  rw [bv64, bv64, ← UInt64.toBitVec_xor]; exact u64id _
theorem u64or (b c : UInt64) : IntKind.u64.wrap ((BitVec.ofInt IntKind.u64.bits (b.toNat : Int) ||| BitVec.ofInt IntKind.u64.bits (c.toNat : Int)).toNat : Int) = ((b ||| c).toNat : Int) := by
  show IntKind.u64.wrap ((BitVec.ofInt 64 (b.toNat : Int) ||| BitVec.ofInt 64 (c.toNat : Int)).toNat : Int) = _
  rw [bv64, bv64, ← UInt64.toBitVec_or]; exact u64id _
theorem u64and (b c : UInt64) : IntKind.u64.wrap ((BitVec.ofInt IntKind.u64.bits (b.toNat : Int) &&& BitVec.ofInt IntKind.u64.bits (c.toNat : Int)).toNat : Int) = ((b &&& c).toNat : Int) := by
  show IntKind.u64.wrap ((BitVec.ofInt 64 (b.toNat : Int) &&& BitVec.ofInt 64 (c.toNat : Int)).toNat : Int) = _
  rw [bv64, bv64, ← UInt64.toBitVec_and]; exact u64id _
theorem u64andNot (b c : UInt64) : IntKind.u64.wrap ((BitVec.ofInt IntKind.u64.bits (b.toNat : Int) &&& ~~~ BitVec.ofInt IntKind.u64.bits (c.toNat : Int)).toNat : Int) = ((b &&& ~~~c).toNat : Int) := by
  show IntKind.u64.wrap ((BitVec.ofInt 64 (b.toNat : Int) &&& ~~~ BitVec.ofInt 64 (c.toNat : Int)).toNat : Int) = _
  rw [bv64, bv64, ← UInt64.toBitVec_not, ← UInt64.toBitVec_and]; exact u64id _
theorem u64add (b c : UInt64) : IntKind.u64.wrap ((b.toNat : Int) + (c.toNat : Int)) = ((b + c).toNat : Int) := by
  rw [IntKind.wrap_u64, UInt64.toNat_add]; simp
theorem u64sub (b c : UInt64) : IntKind.u64.wrap ((b.toNat : Int) - (c.toNat : Int)) = ((b - c).toNat : Int) := by
  have := b.toNat_lt; have := c.toNat_lt
  rw [IntKind.wrap_u64, UInt64.toNat_sub]; simp; omega
theorem u8add (b c : UInt8) : IntKind.u8.wrap ((b.toNat : Int) + (c.toNat : Int)) = ((b + c).toNat : Int) := by
  rw [IntKind.wrap_u8, UInt8.toNat_add]; simp
theorem u8sub (b c : UInt8) : IntKind.u8.wrap ((b.toNat : Int) - (c.toNat : Int)) = ((b - c).toNat : Int) := by
  have := b.toNat_lt; have := c.toNat_lt
  rw [IntKind.wrap_u8, UInt8.toNat_sub]; simp; omega

theorem asU8_v {x : EV} {c : UInt8} (h : asU8 x = some c) : x.av = .p (.v (.int .u8 (c.toNat : Int))) := by
  unfold asU8 at h
  split at h
  · cases h; rfl
  · next m =>
    obtain ⟨hb, h⟩ := bif_some h
    cases h
    rw [Nat.blt_eq] at hb
    show AV.p (.v (.int .u8 (Int.ofNat m))) = _
    rw [UInt8.toNat_ofNat', Nat.mod_eq_of_lt (by simpa using hb)]; rfl
  · cases h
theorem asU32_v {x : EV} {c : UInt32} (h : asU32 x = some c) : x.av = .p (.v (.int .u32 (c.toNat : Int))) := by
  unfold asU32 at h
  split at h
  · cases h; rfl
  · next m =>
    obtain ⟨hb, h⟩ := bif_some h
    cases h
    rw [Nat.blt_eq] at hb
    show AV.p (.v (.int .u32 (Int.ofNat m))) = _
    rw [UInt32.toNat_ofNat', Nat.mod_eq_of_lt (by simpa using hb)]; rfl
  · cases h
theorem asU64_v {x : EV} {c : UInt64} (h : asU64 x = some c) : x.av = .p (.v (.int .u64 (c.toNat : Int))) := by
  unfold asU64 at h
  split at h
  · cases h; rfl
  · next m =>
    obtain ⟨hb, h⟩ := bif_some h
    cases h
    rw [Nat.blt_eq] at hb
    show AV.p (.v (.int .u64 (Int.ofNat m))) = _
    rw [UInt64.toNat_ofNat', Nat.mod_eq_of_lt (by simpa using hb)]; rfl
  · cases h
theorem eqF_ok {k : CK} {x y : EV} {b : Bool} (h : eqF k x y = some b) : ∃ u v, x.av = .p (.v u) ∧ y.av = .p (.v v) ∧ k.ok u ∧ k.ok v ∧ eqCell u v = b := by
  have dd : ∀ {a c : Prop} [Decidable a] [Decidable c], (a ↔ c) → decide a = decide c := fun {a c} _ _ h => by simp only [h]
  have nn : ∀ {a c : Nat}, ((a : Int) == (c : Int)) = decide (a = c) := fun {a c} => by rw [Bool.eq_iff_iff]; simp; omega
  unfold eqF at h
  split at h
  · split at h
    · next a c ha hc => cases h; exact ⟨_, _, asU8_v ha, asU8_v hc, rfl, rfl, by show ((_ : Int) == _) = _; rw [nn]; exact dd UInt8.toNat_inj⟩
    · cases h
  · split at h
    · next a c ha hc => cases h; exact ⟨_, _, asU32_v ha, asU32_v hc, rfl, rfl, by show ((_ : Int) == _) = _; rw [nn]; exact dd UInt32.toNat_inj⟩
    · cases h
  · split at h
    · next a c ha hc => cases h; exact ⟨_, _, asU64_v ha, asU64_v hc, rfl, rfl, by show ((_ : Int) == _) = _; rw [nn]; exact dd UInt64.toNat_inj⟩
    · cases h
  · split at h
    · next a c ha hc => cases h; rw [asI64_eq ha, asI64_eq hc]; exact ⟨_, _, rfl, rfl, rfl, rfl, by show ((_ : Int) == _) = _; rw [Bool.eq_iff_iff]; simp⟩
    · cases h
  · split at h
    · next a c ha hc => cases h; rw [asB_eq ha, asB_eq hc]; exact ⟨_, _, rfl, rfl, trivial, trivial, rfl⟩
    · cases h
  · split at h
    · next a c ha hc => cases h; rw [asS_eq ha, asS_eq hc]; exact ⟨_, _, rfl, rfl, trivial, trivial, by unfold eqCell; exact beqS _ _⟩
    · cases h
  · cases h
theorem eqE_ok : ∀ {ks : List CK} {xs ys : List EV} {b : Bool}, eqE ks xs ys = some b → ∃ us vs, valsA (avL xs) = some us ∧ valsA (avL ys) = some vs ∧ okL ks us ∧ okL ks vs ∧ eqCells us vs = b
  | [], [], [], b, h => by cases h; exact ⟨[], [], rfl, rfl, trivial, trivial, rfl⟩
  | k :: ks, x :: xs, y :: ys, b, h => by
    unfold eqE at h
    split at h
    · next b1 hb1 =>
      obtain ⟨u, v, k1, k2, k3, k4, k5⟩ := eqF_ok hb1
      split at h
      · split at h
        · cases h
          refine ⟨[u], [v], by simp [avL, valsA, k1], by simp [avL, valsA, k2], ⟨k3, trivial⟩, ⟨k4, trivial⟩, ?_⟩
          simp [eqCells, k5]
        · cases h
      · split at h
        · next c hc =>
          cases h
          obtain ⟨us, vs, l1, l2, l3, l4, l5⟩ := eqE_ok hc
          refine ⟨u :: us, v :: vs, by simp [avL, valsA, k1, l1], by simp [avL, valsA, k2, l2], ⟨k3, l3⟩, ⟨k4, l4⟩, ?_⟩
          simp [eqCells, k5, l5]
        · cases h
    · cases h
  | [], _ :: _, _, _, h => by cases h
  | [], [], _ :: _, _, h => by cases h
  | _ :: _, [], _, _, h => by cases h
  | _ :: _, _ :: _, [], _, h => by cases h

section
variable {P : Program} {E : Env} {kp : List Nat} {n : Nat} {ops : Array Oper} {st : AS} {d : Nat} {ty : TypeId} {ps : String} {af : Array Edge}
variable {T T' : TypeId} {x y : Operand}
theorem cast8 {i j : UInt8} : (((i.toNat : Nat) : Int) < ((j.toNat : Nat) : Int)) = (i.toNat < j.toNat) := by simp
theorem Step.cast {o : Oper} {st st' st'' : AS} (h : Step P E kp n ops o st st') (e : st' = st'') : Step P E kp n ops o st st'' := e ▸ h
theorem put_eq {st : AS} {d : Nat} {x y : AV} (e : x = y) : st.put d x = st.put d y := by rw [e]
theorem arF_ok {op : BinOp} {wr : Bool} {r : Int} {C : List Prop} {z : EV} (h : arF wr r = some (C, z)) (hC : ∀ c ∈ C, c) (k : ∀ q, IntKind.i64.wrap r = q → Step P E kp n ops ⟨some d, .binOp op T x y T', ty, ps, af, none⟩ st (st.put d (.p (.v (.int .i64 q))))) :
    Step P E kp n ops ⟨some d, .binOp op T x y T', ty, ps, af, none⟩ st (st.put d z.av) := by
  unfold arF at h
  cases wr with
  | true => cases h; exact k _ rfl
  | false =>
    cases h
    have := hC (-9223372036854775808 ≤ r ∧ r ≤ 9223372036854775807) (by simp)
    exact k _ (w64 this.1 this.2)
theorem intF_ok {op : BinOp} {wr : Bool} {i j : Int} {C : List Prop} {z : EV} (h : intF wr i j op = some (C, z)) (hC : ∀ c ∈ C, c) (hd : Nat.blt d n = true)
    (hx : Gv (st.ev x) (.p (.v (.int .i64 i)))) (hy : Gv (st.ev y) (.p (.v (.int .i64 j)))) : Step P E kp n ops ⟨some d, .binOp op T x y T', ty, ps, af, none⟩ st (st.put d z.av) := by
  unfold intF at h
  split at h
  case h_1 => cases h; exact S_lt hx hy hd
  case h_2 => cases h; exact S_le hx hy hd
  case h_3 => cases h; exact S_gt hx hy hd
  case h_4 => cases h; exact S_ge hx hy hd
  case h_5 => cases h; exact S_eq hx hy hd
  case h_6 => cases h; exact S_ne hx hy hd
  case h_7 => exact arF_ok h hC fun q e => S_addk hx hy hd e
  case h_8 => exact arF_ok h hC fun q e => S_subk hx hy hd e
  case h_9 => exact arF_ok h hC fun q e => S_mulk hx hy hd e
  case h_10 =>
    cases h
    have h1 := hC (0 ≤ i ∧ 0 < j) (by simp)
    have h2 := hC (i ≤ 9223372036854775807) (by simp)
    refine S_quok hx hy hd (by omega) ?_
    rw [Int.tdiv_eq_ediv_of_nonneg h1.1]
    have h3 : 0 ≤ i / j := Int.ediv_nonneg h1.1 (by omega)
    have h4 : i / j ≤ i := Int.ediv_le_self _ h1.1
    exact w64 (by omega) (by omega)
  case h_11 =>
    cases h
    have h1 := hC (0 ≤ i ∧ 0 < j) (by simp)
    exact S_remk hx hy hd (by omega) (Int.tmod_eq_emod_of_nonneg h1.1)
  case h_12 => cases h; exact S_ork hx hy hd rfl
  case h_13 => cases h; exact S_andk hx hy hd rfl
  case h_14 => cases h; exact S_xork hx hy hd rfl
  case h_15 => cases h
theorem u8F_ok {op : BinOp} {i j : UInt8} {z : EV} (h : u8F i j op = some z) (hd : Nat.blt d n = true)
    (hx : Gv (st.ev x) (.p (b8P i))) (hy : Gv (st.ev y) (.p (b8P j))) : Step P E kp n ops ⟨some d, .binOp op T x y T', ty, ps, af, none⟩ st (st.put d z.av) := by
  unfold u8F at h
  have e : ∀ a b : Prop, ∀ [Decidable a] [Decidable b], (a ↔ b) → (AV.p (.v (.bool (decide a)))) = .p (.v (.bool (decide b))) := fun a b _ _ h => by
    simp only [h]
  split at h
  case h_1 => cases h; exact (S_lt hx hy hd).cast (put_eq (e _ _ (by omega)))
  case h_2 => cases h; exact (S_le hx hy hd).cast (put_eq (e _ _ (by omega)))
  case h_3 => cases h; exact (S_gt hx hy hd).cast (put_eq (e _ _ (by omega)))
  case h_4 => cases h; exact (S_ge hx hy hd).cast (put_eq (e _ _ (by omega)))
  case h_5 => cases h; exact (S_eq hx hy hd).cast (put_eq (e _ _ ⟨fun q => UInt8.toNat_inj.1 (by omega), fun q => by rw [q]⟩))
  case h_6 =>
    cases h
    have e2 : decide ((i.toNat : Int) = (j.toNat : Int)) = decide (i = j) := by
      rw [decide_eq_decide]; exact ⟨fun q => UInt8.toNat_inj.1 (by omega), fun q => by rw [q]⟩
    exact (S_ne hx hy hd).cast (put_eq (by rw [e2]; rfl))
  case h_7 => cases h; exact S_addk hx hy hd (u8add _ _)
  case h_8 => cases h; exact S_subk hx hy hd (u8sub _ _)
  case h_9 => cases h; exact S_andk hx hy hd (u8and _ _)
  case h_10 => cases h; exact S_ork hx hy hd (u8or _ _)
  case h_11 => cases h; exact S_xork hx hy hd (u8xor _ _)
  case h_12 => cases h
theorem u32F_ok {op : BinOp} {i j : UInt32} {z : EV} (h : u32F i j op = some z) (hd : Nat.blt d n = true)
    (hx : Gv (st.ev x) (.p (u32P i))) (hy : Gv (st.ev y) (.p (u32P j))) : Step P E kp n ops ⟨some d, .binOp op T x y T', ty, ps, af, none⟩ st (st.put d z.av) := by
  unfold u32F at h
  have e : ∀ a b : Prop, ∀ [Decidable a] [Decidable b], (a ↔ b) → (AV.p (.v (.bool (decide a)))) = .p (.v (.bool (decide b))) := fun a b _ _ h => by
    simp only [h]
  split at h
  case h_1 => cases h; exact (S_lt hx hy hd).cast (put_eq (e _ _ (by omega)))
  case h_2 => cases h; exact (S_le hx hy hd).cast (put_eq (e _ _ (by omega)))
  case h_3 => cases h; exact (S_gt hx hy hd).cast (put_eq (e _ _ (by omega)))
  case h_4 => cases h; exact (S_ge hx hy hd).cast (put_eq (e _ _ (by omega)))
  case h_5 => cases h; exact (S_eq hx hy hd).cast (put_eq (e _ _ ⟨fun q => UInt32.toNat_inj.1 (by omega), fun q => by rw [q]⟩))
  case h_6 =>
    cases h
    have e2 : decide ((i.toNat : Int) = (j.toNat : Int)) = decide (i = j) := by
      rw [decide_eq_decide]; exact ⟨fun q => UInt32.toNat_inj.1 (by omega), fun q => by rw [q]⟩
    exact (S_ne hx hy hd).cast (put_eq (by rw [e2]; rfl))
  case h_7 => cases h; exact S_addk hx hy hd (u32add _ _)
  case h_8 => cases h; exact S_subk hx hy hd (u32sub _ _)
  case h_9 => cases h; exact S_andk hx hy hd (u32and _ _)
  case h_10 => cases h; exact S_ork hx hy hd (u32or _ _)
  case h_11 => cases h; exact S_xork hx hy hd (u32xor _ _)
  case h_12 => cases h; exact S_andNotk hx hy hd (u32andNot _ _)
  case h_13 => cases h
theorem u64F_ok {op : BinOp} {i j : UInt64} {z : EV} (h : u64F i j op = some z) (hd : Nat.blt d n = true)
    (hx : Gv (st.ev x) (.p (u64P i))) (hy : Gv (st.ev y) (.p (u64P j))) : Step P E kp n ops ⟨some d, .binOp op T x y T', ty, ps, af, none⟩ st (st.put d z.av) := by
  unfold u64F at h
  have e : ∀ a b : Prop, ∀ [Decidable a] [Decidable b], (a ↔ b) → (AV.p (.v (.bool (decide a)))) = .p (.v (.bool (decide b))) := fun a b _ _ h => by
    simp only [h]
  split at h
  case h_1 => cases h; exact (S_lt hx hy hd).cast (put_eq (e _ _ (by omega)))
  case h_2 => cases h; exact (S_le hx hy hd).cast (put_eq (e _ _ (by omega)))
  case h_3 => cases h; exact (S_gt hx hy hd).cast (put_eq (e _ _ (by omega)))
  case h_4 => cases h; exact (S_ge hx hy hd).cast (put_eq (e _ _ (by omega)))
  case h_5 => cases h; exact (S_eq hx hy hd).cast (put_eq (e _ _ ⟨fun q => UInt64.toNat_inj.1 (by omega), fun q => by rw [q]⟩))
  case h_6 =>
    cases h
    have e2 : decide ((i.toNat : Int) = (j.toNat : Int)) = decide (i = j) := by
      rw [decide_eq_decide]; exact ⟨fun q => UInt64.toNat_inj.1 (by omega), fun q => by rw [q]⟩
    exact (S_ne hx hy hd).cast (put_eq (by rw [e2]; rfl))
  case h_7 => cases h; exact S_addk hx hy hd (u64add _ _)
  case h_8 => cases h; exact S_subk hx hy hd (u64sub _ _)
  case h_9 => cases h; exact S_andk hx hy hd (u64and _ _)
  case h_10 => cases h; exact S_ork hx hy hd (u64or _ _)
  case h_11 => cases h; exact S_xork hx hy hd (u64xor _ _)
  case h_12 => cases h; exact S_andNotk hx hy hd (u64andNot _ _)
  case h_13 => cases h
theorem strF_ok {op : BinOp} {l m : List UInt8} {C : List Prop} {z : EV} (h : strF l m op = some (C, z)) (hC : ∀ c ∈ C, c) (hd : Nat.blt d n = true)
    (hx : Gv (st.ev x) (.p (strP l))) (hy : Gv (st.ev y) (.p (strP m))) : Step P E kp n ops ⟨some d, .binOp op T x y T', ty, ps, af, none⟩ st (st.put d z.av) := by
  unfold strF at h
  split at h
  case h_1 => cases h; exact S_strAdd hx hy (hC _ (by simp)) hd
  case h_2 => cases h; exact S_strEq hx hy hd
  case h_3 => cases h; exact S_strNe hx hy hd
  case h_4 => cases h; exact S_strLt hx hy hd
  case h_5 => cases h; exact S_strLe hx hy hd
  case h_6 => cases h; exact S_strGt hx hy hd
  case h_7 => cases h; exact S_strGe hx hy hd
  case h_8 => cases h
theorem boolF_ok {op : BinOp} {g q : Bool} {z : EV} (h : boolF g q op = some z) (hu : P.underlying T = some .bool) (hd : Nat.blt d n = true)
    (hx : Gv (st.ev x) (.p (boolP g))) (hy : Gv (st.ev y) (.p (boolP q))) : Step P E kp n ops ⟨some d, .binOp op T x y T', ty, ps, af, none⟩ st (st.put d z.av) := by
  have hr : ∀ w, (Op.equal T (.bool g) (.bool q)).run P w = .ok (g == q) w := fun w => by
    unfold Op.equal Op.maxDepth
    exact run_equalIn_bool w 9999 T g q hu
  unfold boolF at h
  split at h
  · cases h
    refine S_bin hx hy hd fun w => ?_
    simp [eqGuard, binOp, hr]
  · cases h
    refine S_bin hx hy hd fun w => ?_
    simp [eqGuard, binOp, hr]
  · cases h
theorem shl_mod (c n : Nat) : (UInt32.ofNat (c <<< n)).toNat = c * 2 ^ n % 4294967296 := by
  rw [UInt32.toNat_ofNat', Nat.shiftLeft_eq]
theorem shF_ok {op : BinOp} {u v : EV} {C : List Prop} {z : EV} (h : shF op u v = some (C, z)) (hC : ∀ c ∈ C, c) (hd : Nat.blt d n = true)
    (hx : Gv (st.ev x) u.av) (hy : Gv (st.ev y) v.av) : Step P E kp n ops ⟨some d, .binOp op T x y T', ty, ps, af, none⟩ st (st.put d z.av) := by
  unfold shF at h
  cases hv : asInt v with
  | none => rw [hv] at h; cases h
  | some p =>
    obtain ⟨k, j⟩ := p
    rw [hv] at h
    simp only at h
    have hy' : Gv (st.ev y) (.p (.v (.int k j))) := fun w Pub φ q hq => asInt_gv hv _ _ _ _ (hy _ _ _ _ hq)
    cases hu : asU32 u with
    | some c =>
      rw [hu] at h
      simp only at h
      have hx' : Gv (st.ev x) (.p (u32P c)) := fun w Pub φ q hq => asU32_gv hu _ _ _ _ (hx _ _ _ _ hq)
      split at h
      · cases h
        have h1 := hC _ (List.mem_singleton.2 rfl)
        obtain ⟨m, rfl⟩ := Int.eq_ofNat_of_zero_le h1.1
        have hm : m ≤ 32 := by omega
        refine S_shlk hx' hy' hd (decide_eq_false (by omega)) rfl ?_
        rw [IntKind.wrap_u32]
        show _ = (((UInt32.ofNat (c.toNat <<< m)).toNat : Nat) : Int)
        rw [shl_mod]
        have e : (min ((m : Int)).toNat (IntKind.u32.bits)) = m := by show min m 32 = m; omega
        rw [e]; simp
      · cases h
        have h1 := hC _ (List.mem_singleton.2 rfl)
        obtain ⟨m, rfl⟩ := Int.eq_ofNat_of_zero_le h1.1
        have hm : m ≤ 32 := by omega
        refine (S_shrk hx' hy' hd (decide_eq_false (by omega)) rfl).cast (put_eq ?_)
        have e : (min ((m : Int)).toNat (IntKind.u32.bits)) = m := by show min m 32 = m; omega
        rw [e]
        show AV.p (.v (.int .u32 _)) = AV.p (.v (.int .u32 ((UInt32.ofNat (c.toNat >>> m)).toNat : Int)))
        have e2 : (UInt32.ofNat (c.toNat >>> m)).toNat = c.toNat / 2 ^ m := by
          have := c.toNat_lt
          have h3 : c.toNat / 2 ^ m ≤ c.toNat := Nat.div_le_self _ _
          rw [UInt32.toNat_ofNat', Nat.shiftRight_eq_div_pow]
          exact Nat.mod_eq_of_lt (by omega)
        rw [e2]; simp
      · cases h
    | none =>
      rw [hu] at h
      simp only at h
      cases hi : asI64 u with
      | none =>
        rw [hi] at h
        simp only at h
        cases h6 : asU64 u with
        | none => rw [h6] at h; cases h
        | some c =>
          rw [h6] at h
          simp only at h
          have hx' : Gv (st.ev x) (.p (u64P c)) := fun w Pub φ q hq => asU64_gv h6 _ _ _ _ (hx _ _ _ _ hq)
          split at h
          · cases h
            have h1 := hC _ (List.mem_singleton.2 rfl)
            obtain ⟨m, rfl⟩ := Int.eq_ofNat_of_zero_le h1
            refine S_shlk hx' hy' hd (decide_eq_false (by omega)) rfl ?_
            rw [IntKind.wrap_u64]
            show _ = (((UInt64.ofNat (c.toNat * 2 ^ min ((m : Int)).toNat 64)).toNat : Nat) : Int)
            rw [UInt64.toNat_ofNat']
            have e : (min ((m : Int)).toNat (IntKind.u64.bits)) = min ((m : Int)).toNat 64 := rfl
            rw [e]; simp
          · cases h
            have h1 := hC _ (List.mem_singleton.2 rfl)
            obtain ⟨m, rfl⟩ := Int.eq_ofNat_of_zero_le h1
            refine (S_shrk hx' hy' hd (decide_eq_false (by omega)) rfl).cast (put_eq ?_)
            have e : (min ((m : Int)).toNat (IntKind.u64.bits)) = min ((m : Int)).toNat 64 := rfl
            rw [e]
            show AV.p (.v (.int .u64 _)) = AV.p (.v (.int .u64 ((UInt64.ofNat (c.toNat / 2 ^ min ((m : Int)).toNat 64)).toNat : Int)))
            have e2 : (UInt64.ofNat (c.toNat / 2 ^ min ((m : Int)).toNat 64)).toNat = c.toNat / 2 ^ min ((m : Int)).toNat 64 := by
              have := c.toNat_lt
              have h3 : c.toNat / 2 ^ min ((m : Int)).toNat 64 ≤ c.toNat := Nat.div_le_self _ _
              rw [UInt64.toNat_ofNat']
              exact Nat.mod_eq_of_lt (by omega)
            rw [e2]; simp
          · cases h
      | some i =>
        rw [hi] at h
        simp only at h
        have e := asI64_eq hi; subst e
        split at h
        · cases h
          have h1 := hC _ (List.mem_singleton.2 rfl)
          obtain ⟨m, rfl⟩ := Int.eq_ofNat_of_zero_le h1.1
          have hm : m ≤ 63 := by omega
          refine (S_shrk hx hy' hd (decide_eq_false (by omega)) rfl).cast (put_eq ?_)
          have e : (min ((m : Int)).toNat (IntKind.i64.bits)) = m := by show min m 64 = m; omega
          rw [e]; rfl
        · cases h
          have h1 := hC _ (List.mem_singleton.2 rfl)
          obtain ⟨m, rfl⟩ := Int.eq_ofNat_of_zero_le h1.1
          have hm : m ≤ 63 := by omega
          refine (S_shlk hx hy' hd (decide_eq_false (by omega)) rfl rfl).cast (put_eq ?_)
          have e : (min ((m : Int)).toNat (IntKind.i64.bits)) = m := by show min m 64 = m; omega
          rw [e]; rfl
        · cases h
theorem Gv.trans {x y z : AV} (h : Gv x y) (k : Gv y z) : Gv x z := fun w Pub φ u hu => k _ _ _ _ (h _ _ _ _ hu)
theorem binF_ok {op : BinOp} {wr : Bool} {u v : EV} {C : List Prop} {z : EV} (h : binF wr op u v = some (C, z)) (hC : ∀ c ∈ C, c) (hd : Nat.blt d n = true)
    (hx : Gv (st.ev x) u.av) (hy : Gv (st.ev y) v.av) : Step P E kp n ops ⟨some d, .binOp op T x y T', ty, ps, af, none⟩ st (st.put d z.av) := by
  unfold binF at h
  split at h
  · exact shF_ok h hC hd hx hy
  · exact shF_ok h hC hd hx hy
  · split at h
    · next i j h1 h2 =>
      have e1 := asI64_eq h1; have e2 := asI64_eq h2; subst e1 e2
      exact intF_ok h hC hd hx hy
    · split at h
      · next i j h1 h2 =>
        cases hz : u8F i j op with
        | none => rw [hz] at h; cases h
        | some z' => rw [hz] at h; cases h; exact u8F_ok hz hd (hx.trans (asU8_gv h1)) (hy.trans (asU8_gv h2))
      · split at h
        · next i j h1 h2 =>
          cases hz : u32F i j op with
          | none => rw [hz] at h; cases h
          | some z' => rw [hz] at h; cases h; exact u32F_ok hz hd (hx.trans (asU32_gv h1)) (hy.trans (asU32_gv h2))
        · split at h
          · next i j h1 h2 =>
            have e1 := asS_eq h1; have e2 := asS_eq h2; subst e1 e2
            exact strF_ok h hC hd hx hy
          · split at h
            · next i j h1 h2 =>
              cases hz : u64F i j op with
              | none => rw [hz] at h; cases h
              | some z' => rw [hz] at h; cases h; exact u64F_ok hz hd (hx.trans (asU64_gv h1)) (hy.trans (asU64_gv h2))
            · cases h
theorem convF_ok {k' : IntKind} {u z : EV} {dd : TypeDesc} (h : convF k' u = some z) (h1 : P.underlying T = some dd) (h2 : P.underlying T' = some (.int k')) (hd : Nat.blt d n = true) (hx : Gv (st.ev x) u.av) :
    Step P E kp n ops ⟨some d, .convert T T' x, ty, ps, af, none⟩ st (st.put d z.av) := by
  have go : ∀ {k : IntKind} {i r : Int}, Gv u.av (.p (.v (.int k i))) → k'.wrap i = r → z.av = .p (.v (.int k' r)) → Step P E kp n ops ⟨some d, .convert T T' x, ty, ps, af, none⟩ st (st.put d z.av) := fun hg hr hz => by
    rw [hz]; exact S_convInt (hx.trans hg) h1 h2 hr hd
  have w64' : ∀ i : Int, IntKind.u64.wrap i = (((UInt64.ofNat (i % 18446744073709551616).toNat).toNat : Nat) : Int) := fun i => by
    rw [IntKind.wrap_u64, UInt64.toNat_ofNat']; omega
  have w32 : ∀ i : Int, IntKind.u32.wrap i = (((UInt32.ofNat (i % 4294967296).toNat).toNat : Nat) : Int) := fun i => by
    rw [IntKind.wrap_u32, UInt32.toNat_ofNat']; omega
  unfold convF at h
  split at h
  · split at h
    · next c => cases h; exact go (k := .u32) (i := (c.toNat : Int)) Gv.r (by
        rw [u8w]; unfold u8of
        have : UInt8.ofNat ((c.toNat : Int) % 256).toNat = UInt8.ofNat c.toNat := UInt8.toNat_inj.1 (by rw [UInt8.toNat_ofNat', UInt8.toNat_ofNat']; omega)
        rw [this]) rfl
    · next c => cases h; exact go (k := .u64) (i := (c.toNat : Int)) Gv.r (by
        rw [u8w]; unfold u8of
        have : UInt8.ofNat ((c.toNat : Int) % 256).toNat = UInt8.ofNat c.toNat := UInt8.toNat_inj.1 (by rw [UInt8.toNat_ofNat', UInt8.toNat_ofNat']; omega)
        rw [this]) rfl
    · next c => cases h; exact go (k := .u8) (i := (c.toNat : Int)) Gv.r (by rw [u8w, u8of_id]) rfl
    · next i => cases h; exact go Gv.r (u8w i) rfl
    · cases h
  · split at h
    · next c => cases h; exact go (k := .u8) (i := (c.toNat : Int)) Gv.r (by
        have := c.toNat_lt
        rw [IntKind.wrap_u32, UInt32.toNat_ofNat']; omega) rfl
    · next c => cases h; exact go (k := .u32) (i := (c.toNat : Int)) Gv.r (u32id c) rfl
    · next c => cases h; exact go (k := .u64) (i := (c.toNat : Int)) Gv.r (by
        rw [IntKind.wrap_u32, UInt32.toNat_ofNat']; omega) rfl
    · next i => cases h; exact go Gv.r (w32 i) rfl
    · cases h
  · split at h
    · next c => cases h; exact go (k := .u8) (i := (c.toNat : Int)) Gv.r (by
        have := c.toNat_lt
        rw [IntKind.wrap_u64, UInt64.toNat_ofNat']; omega) rfl
    · next c => cases h; exact go (k := .u32) (i := (c.toNat : Int)) Gv.r (by
        have := c.toNat_lt
        rw [IntKind.wrap_u64, UInt64.toNat_ofNat']; omega) rfl
    · next c => cases h; exact go (k := .u64) (i := (c.toNat : Int)) Gv.r (u64id c) rfl
    · next i => cases h; exact go Gv.r (w64' i) rfl
    · cases h
  · split at h
    · next c => cases h; exact go (k := .u8) (i := (c.toNat : Int)) Gv.r (u8i c) rfl
    · next c => cases h; exact go (k := .u32) (i := (c.toNat : Int)) Gv.r (by have := c.toNat_lt; exact w64 (by omega) (by omega)) rfl
    · next c => cases h; exact go (k := .u64) (i := (c.toNat : Int)) Gv.r rfl rfl
    · next i => cases h; exact go Gv.r rfl rfl
    · next i => cases h; exact go Gv.r rfl rfl
    · cases h
  · split at h
    · next c => cases h; exact go (k := .u8) (i := (c.toNat : Int)) Gv.r rfl rfl
    · next c => cases h; exact go (k := .u32) (i := (c.toNat : Int)) Gv.r rfl rfl
    · next i => cases h; exact go Gv.r rfl rfl
    · cases h
/-- A word turned over. -/
theorem notF_ok {u z : EV} (h : notF u = some z) (hd : Nat.blt d n = true) (hx : Gv (st.ev x) u.av) : Step P E kp n ops ⟨some d, .unOp .xor T x, ty, ps, af, none⟩ st (st.put d z.av) := by
  unfold notF at h
  split at h
  · next c hc =>
    cases h
    refine S_inv (hx.trans (asU32_gv hc)) ?_ hd
    show IntKind.u32.wrap ((BitVec.ofInt 32 4294967295 ^^^ BitVec.ofInt 32 (c.toNat : Int)).toNat : Int) = ((~~~c).toNat : Int)
    have e : (BitVec.ofInt 32 4294967295 ^^^ BitVec.ofInt 32 (c.toNat : Int)) = (~~~c).toBitVec := by
      rw [bv32, UInt32.toBitVec_not]
      show BitVec.allOnes 32 ^^^ _ = _
      rw [BitVec.allOnes_xor]
    rw [e]; exact u32id _
  · split at h
    · next c hc =>
      cases h
      refine S_inv (hx.trans (asU64_gv hc)) ?_ hd
      show IntKind.u64.wrap ((BitVec.ofInt 64 18446744073709551615 ^^^ BitVec.ofInt 64 (c.toNat : Int)).toNat : Int) = ((~~~c).toNat : Int)
      have e : (BitVec.ofInt 64 18446744073709551615 ^^^ BitVec.ofInt 64 (c.toNat : Int)) = (~~~c).toBitVec := by
        rw [bv64, UInt64.toBitVec_not]
        show BitVec.allOnes 64 ^^^ _ = _
        rw [BitVec.allOnes_xor]
      rw [e]; exact u64id _
    · cases h
end
end Go.Proofs.Ytnopdnclefopbaa
