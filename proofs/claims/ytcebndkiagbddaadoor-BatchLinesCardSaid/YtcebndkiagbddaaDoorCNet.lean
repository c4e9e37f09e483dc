/- Contracts of nets, as paths of bits. -/
import Derived.Test.YtcebndkiagbddaaDoorConv
import Derived.Test.YtcebndkiagbddaaDoorCHex
import Derived.Test.YtcebndkiagbddaaDoorRaw
import Derived.Test.YtcebndkiagbddaaDoorJoin
import Derived.Test.YtcebndkiagbddaaDoorTrieN
namespace Go.Proofs.YtcebndkiagbddaaDoor
open Go.RowKit
set_option linter.unusedVariables false
set_option linter.unusedSimpArgs false

/-- A function that returns a value without addresses, by its parts. -/
theorem Cf.ofV {P : Program} {f : FuncId} {ags : List EV} {res : EV} {u : Value} (hc : callable P f = true) (hr : ∀ (w : World) (Pub : Nat → Nat → Prop) (φ : Ghost), RA w Pub φ res.av u)
    (h : ∀ (w : World) (Pub : Nat → Nat → Prop) (φ : Ghost) (vs : List Value), (∀ b i, Pub b i → b < w.heap.size) → RAs w Pub φ (avL ags) vs → Calls P f vs.toArray w fun e w' => e = .returned u ∧ Below w.heap.size w w') : Cf P f [] ags [] res := by
  refine ⟨hc, fun E φ Pub w vs e1 e2 I hR => (h w Pub φ vs I.publ hR).mono ?_⟩
  rintro e w' ⟨rfl, hb⟩
  exact ⟨u, φ, Pub, rfl, I.below e1 hb, hr _ _ _⟩
abbrev netE (p : List Bool) : EV := .agg [.u32 (adr p), .i (p.length : Int)]
section
variable {w : World} {Pub : Nat → Nat → Prop} {φ : Ghost}
theorem ra_net {p : List Bool} {u : Value} (h : RA w Pub φ (netE p).av u) : u = netV (adr p).toNat (p.length : Int) :=
  nmA_R (k := (adr p, (p.length : Int))) h
theorem ra_netV (p : List Bool) : RA w Pub φ (netE p).av (netV (adr p).toNat (p.length : Int)) :=
  nmA_V (w := w) (Pub := Pub) (φ := φ) (adr p, (p.length : Int))
theorem ra_u32v {x : UInt32} {u : Value} (h : RA w Pub φ (EV.u32 x).av u) : u = .int .u32 (x.toNat : Int) := by unfold EV.av RA RP at h; exact h
theorem ra_i {x : Int} : RA w Pub φ (EV.i x).av (.int .i64 x) := by unfold EV.av RA RP; rfl
theorem ra_b {x : Bool} : RA w Pub φ (EV.b x).av (.bool x) := by unfold EV.av RA RP; rfl
theorem ra_tup2 {x y : EV} {u v : Value} (h1 : RA w Pub φ x.av u) (h2 : RA w Pub φ y.av v) : RA w Pub φ (EV.tup [x, y]).av (.tuple #[u, v]) := by
  unfold EV.av RA
  refine ⟨[u, v], rfl, ?_⟩
  simp only [avL]
  unfold RAs
  refine ⟨_, _, rfl, h1, ?_⟩
  unfold RAs
  refine ⟨_, _, rfl, h2, ?_⟩
  unfold RAs; rfl
end
theorem cf_nCheck {p : List Bool} (h : p.length ≤ 32) : Cf Tryd.prog 47 [] [netE p] [] (.i 0) :=
  Cf.ofV (by kernel_rfl) (fun _ _ _ => ra_i) fun w Pub φ vs hp hR => by
    obtain ⟨u, rfl, h1⟩ := ra1 hR
    rw [ra_net h1]
    exact check_is _ _ 0 w (adr p).toNat_lt (Lib.hid (pcheck_adr h))
abbrev netP (k a b : Int) : List Bool := pathN (pnetA k a b) (pnetB k a b)
theorem netP_len {k a b : Int} : (netP k a b).length ≤ 32 := by rw [pathN_len]; exact pnetB_le _ _ _
theorem cf_kNet {k a b : Int} {s : List UInt8} (h1 : IntOk k) (h2 : IntOk a) (h3 : IntOk b) : Cf Tryd.prog 24 [] [.agg [.i k, .i a, .i b, .s s]] [] (netE (netP k a b)) :=
  Cf.ofV (by kernel_rfl) (fun _ _ _ => ra_netV _) fun w Pub φ vs hp hR => by
    obtain ⟨u, rfl, h⟩ := ra1 hR
    have e : u = rawV k a b ⟨⟨s⟩⟩ := by
      unfold EV.av RA at h
      obtain ⟨vs, e, h⟩ := h
      simp only [avL] at h
      unfold RAs at h
      obtain ⟨u0, us, rfl, h0, h⟩ := h
      unfold RAs at h
      obtain ⟨u1, us, rfl, h1, h⟩ := h
      unfold RAs at h
      obtain ⟨u2, us, rfl, h2, h⟩ := h
      unfold RAs at h
      obtain ⟨u3, us, rfl, h3, h⟩ := h
      unfold RAs at h
      subst h
      unfold EV.av RA RP at h0 h1 h2 h3
      subst h0 h1 h2 h3
      exact e
    have l := pnetB_le k a b
    have v := (pnet_valid k a b).2.2
    rw [Int.toNat_natCast] at v
    rw [e, adr_nat, adrN_path (pnetA_lt k a b) l, pathN_len, pcut_of_mod v]
    exact net_any k a b ⟨⟨s⟩⟩ w h1 h2 h3
end Go.Proofs.YtcebndkiagbddaaDoor
