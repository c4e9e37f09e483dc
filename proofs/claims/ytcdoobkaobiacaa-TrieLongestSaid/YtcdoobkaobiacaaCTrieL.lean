/- Tries: contracts of lists of nodes. -/
import Derived.Test.YtcdoobkaobiacaaCTrie
namespace Go.Proofs.Ytcdoobkaobiacaa
open Go.RowKit
set_option linter.unusedVariables false
set_option linter.unusedSimpArgs false

def Tr.c : Tr → Option (List PV)
  | .nil => none
  | .node p o l r => some (pvL [.u32 (adr p), .i (p.length : Int), .s o, .rp l.c, .rp r.c])
abbrev nodeE (p : List Bool) (o : List UInt8) (l r : Tr) : EV := .pp [.u32 (adr p), .i (p.length : Int), .s o, .rp l.c, .rp r.c] 0
def ndC (n : Nd) : Nat → EV
  | 0 => .u32 (adr n.p)
  | 1 => .i (n.p.length : Int)
  | 2 => .s n.o
  | _ => .i (n.s : Int)
abbrev ndF (L : List Nd) : Nat → Nat → EV := fun i j => ndC (L.getD i default) j
abbrev nodesE (L : List Nd) : EV := .lz L.length 4 (ndF L)
theorem flat_len (p : List Bool) (o : List UInt8) (l r : Tr) : (Tr.node p o l r).flat.length = 1 + l.flat.length + r.flat.length := by
  rw [Tr.flat, List.length_cons, List.length_append]; omega
theorem list_fin {p : List Bool} {o : List UInt8} {l r : Tr} {C X : List EV} (h0 : C.getD 0 .any = .u32 (adr p)) (h1 : C.getD 1 .any = .i (p.length : Int)) (h2 : C.getD 2 .any = .s o)
    (hX : X = [.i ((1 + l.flat.length + r.flat.length : Nat) : Int)]) : ∀ i, i < 0 + 1 + l.flat.length + r.flat.length → ∀ j, j < 4 →
    stZ (fun i j => bif i.blt (0 + 1 + l.flat.length) then (fun i j => bif i.blt (0 + 1) then C.getD (i * 4 + j) .any else ndF l.flat (i - (0 + 1)) j) i j else ndF r.flat (i - (0 + 1 + l.flat.length)) j) 0 3 X i j = ndF (Tr.node p o l r).flat i j := by
  intro i hi j hj
  have e : (Tr.node p o l r).flat = ⟨p, o, l.flat.length + r.flat.length + 1⟩ :: (l.flat ++ r.flat) := by rw [Tr.flat]
  subst hX
  unfold stZ
  cases i with
  | zero =>
    have b : Nat.blt 0 (0 + 1 + l.flat.length) = true := by rw [Nat.blt_eq]; omega
    rw [e]
    match j, hj with
    | 0, _ => simp only [b, cond_true]; exact h0
    | 1, _ => simp only [b, cond_true]; exact h1
    | 2, _ => simp only [b, cond_true]; exact h2
    | 3, _ => show EV.i _ = EV.i _; congr 2; show 1 + l.flat.length + r.flat.length = l.flat.length + r.flat.length + 1; omega
  | succ i =>
    rw [e]
    show (bif Nat.blt (i + 1) (0 + 1 + l.flat.length) then ndF l.flat (i + 1 - (0 + 1)) j else ndF r.flat (i + 1 - (0 + 1 + l.flat.length)) j) = ndC ((l.flat ++ r.flat).getD i default) j
    by_cases h : i < l.flat.length
    · have b : Nat.blt (i + 1) (0 + 1 + l.flat.length) = true := by rw [Nat.blt_eq]; omega
      rw [b, List.getD_eq_getElem?_getD, List.getElem?_append_left h, ← List.getD_eq_getElem?_getD]; rfl
    · have b : Nat.blt (i + 1) (0 + 1 + l.flat.length) = false := by
        cases hb : Nat.blt (i + 1) (0 + 1 + l.flat.length) with
        | false => rfl
        | true => rw [Nat.blt_eq] at hb; omega
      rw [b, List.getD_eq_getElem?_getD, List.getElem?_append_right (by omega), ← List.getD_eq_getElem?_getD, show i + 1 - (0 + 1 + l.flat.length) = i - l.flat.length from by omega]; rfl
set_option maxRecDepth 100000 in
set_option maxHeartbeats 4000000 in
theorem cf_listNilO  : Cf Try.prog 26 [] [.v (.pointer none)] [] (nodesE []) := by
  refine Cf.introR tabT {} (DR _ _ _ tabT {}) (by kernel_rfl) tab_ok Try.func26 Try.ntmps26 rfl rfl (DR_ok tab_ok (by kernel_rfl)) (by kernel_rfl) ?_
  refine ⟨fun h1 => ?_, fun h1 => ?_⟩
  · skip
    (simp only [Int.reduceToNat, UInt8.reduceOfNat] at h1)
    have c1 := h1
    repeat (refine Ob.mk ?_ ?_; focus ((exact Eq.refl _)))
    trivial
  · skip
    have c1 := h1
    exact absurd h1 (by decide)
set_option maxRecDepth 100000 in
set_option maxHeartbeats 4000000 in
theorem cf_listNodeO {p : List Bool} {o : List UInt8} {l r : Tr} (il : Cf Try.prog 26 [] [.rp l.c] [] (nodesE l.flat)) (ir : Cf Try.prog 26 [] [.rp r.c] [] (nodesE r.flat)) (hl : (Tr.node p o l r).flat.length ≤ 1000000) : Cf Try.prog 26 [] [nodeE p o l r] [] (nodesE (Tr.node p o l r).flat) := by
  have fl := flat_len p o l r
  refine Cf.introR tabT {} (DR _ _ _ tabT {}) (by kernel_rfl) tab_ok Try.func26 Try.ntmps26 rfl rfl (DR_ok tab_ok (by kernel_rfl)) (by kernel_rfl) ?_
  refine ⟨fun h1 => ?_, fun h1 => ?_⟩
  · skip
    have c1 := h1
    exact absurd h1 (by decide)
  · skip
    (simp only [Int.reduceToNat, UInt8.reduceOfNat] at h1)
    have c1 := h1
    refine ⟨[0, 1, 3, 7, 0, 16, 48, 112, 255, 511, 1023], by kernel_rfl, ?_⟩
    refine ⟨[0, 0, 2, 6, 14, 30, 62, 127, 0, 256, 768, 1792, 3840, 8191, 16383, 32767], by kernel_rfl, ?_⟩
    repeat (refine Ob.mk ?_ ?_; focus (omega))
    refine ⟨_, _, _, _, il, ?_⟩
    repeat (refine Ob.mk ?_ ?_; (focus (first | (simp only [SrcE.len]; omega) | (exact Eq.refl _) | omega)))
    refine ⟨_, _, _, _, ir, ?_⟩
    repeat (refine Ob.mk ?_ ?_; (focus (first | (simp only [SrcE.len]; omega) | (exact list_fin rfl rfl rfl rfl) | (exact Eq.refl _) | omega | (exact Nat.le_of_ble_eq_true rfl))))
    trivial
set_option maxRecDepth 100000 in
set_option maxHeartbeats 4000000 in
theorem cf_ndClone {L : List Nd} (hl : L.length ≤ 1000000) : Cf Try.prog 24 [] [nodesE L] [] (nodesE L) := by
  refine Cf.introR tabT {} D0 (by kernel_rfl) tab_ok Try.func24 Try.ntmps24 rfl rfl (D0_ok) (by kernel_rfl) ?_
  refine fun g1 hg1 => ?_
  refine ⟨fun h2 => ?_, fun h2 => ?_⟩
  · skip
    have c2 := h2
    repeat (refine Ob.mk ?_ ?_; (focus (((simp_all; done)))))
    trivial
  · skip
    have c2 := h2
    repeat (refine Ob.mk ?_ ?_; (focus (first | (exact fun _ _ _ _ => rfl) | (exact Eq.refl _) | omega | (simp only [SrcE.len, Nat.zero_add, List.length_append, List.length_cons, List.length_nil]; omega))))
    trivial
theorem cf_list : ∀ {T : Tr}, T.flat.length ≤ 1000000 → Cf Try.prog 26 [] [.rp T.c] [] (nodesE T.flat)
  | .nil, _ => cf_listNilO
  | .node p o l r, h => by
    have fl := flat_len p o l r
    exact cf_listNodeO (cf_list (by omega)) (cf_list (by omega)) h
end Go.Proofs.Ytcdoobkaobiacaa
