/- An append to a row of the call's own; a block of the call's own is shared. They name no function of the program. -/
import Derived.Test.YtnopdnclefopbaaAbsInv
import Derived.Laws.Append
import Derived.Laws.AppendOwn
import Derived.Laws.Tables
namespace Go.Proofs.Ytnopdnclefopbaa
open Go.RowKit
set_option linter.unusedVariables false
set_option linter.unusedSimpArgs false

section
variable {E : Env} {kp : List Nat} {φ φ' : Ghost} {Pub Pub' : Nat → Nat → Prop} {h : List (Nat × OB)} {w w' : World}

/-- The row r goes on under another name, in its block. -/
theorem Inv.inplace (I : Inv E kp φ Pub h w) {r r' b c sz pub : Nat} {t : TypeId} {cells cells' : List PV} (hl : look OB.dead h r = .row cells t sz pub) (hr : φ r = some (b, c))
    (hf : (look OB.dead h r').alive = false) (hh : hHas r' h = false) (hk : r' ∉ kp) (hos : w'.os = w.os) (htape : w'.tape = w.tape) (hout : w'.output = w.output) (hsz : w'.heap.size = w.heap.size)
    (hother : ∀ k, k ≠ b → w'.heap[k]? = w.heap[k]?) (H : Adv w Pub w' Pub) {cur' : Array Value} {fr : Nat × Nat} (hw : w'.heap[b]? = some (.cells cur' t fr)) (hfr : FrOk cur'.size fr) (h2 : cur'.size = c * sz) (hle : cells'.length ≤ cur'.size)
    (hR : RPs w' Pub cells' (cur'.toList.take cells'.length)) (h1 : ∀ u ∈ cur'.toList.take cells'.length, u.oneCell' = true) (hlen : cells.length ≤ cells'.length) :
    Inv E kp (fun q => if q = r' then some (b, c) else φ q) Pub ((r', .row cells' t sz pub) :: (r, .dead) :: h) w' := by
  have ha : (look OB.dead h r).alive = true := by rw [hl]; rfl
  have hne : r ≠ r' := fun e => by subst e; rw [ha] at hf; cases hf
  have hm := I.mine r b c ha hr
  have k := I.own r
  rw [hl] at k
  have hpub : c ≤ maxLen ∧ ∀ i, Pub b i → i < pub ∧ i < cells.length := by
    rcases k with ⟨k0, _⟩ | ⟨b', c', cur, fr0, k1, ⟨k2, k2'⟩, k3, k4, k5, k6, k7, k8⟩
    · rw [hr] at k0; cases k0
    · rw [hr] at k1; cases k1; exact ⟨k3, k8⟩
  have hal : ∀ q, (look OB.dead ((r', OB.row cells' t sz pub) :: (r, .dead) :: h) q).alive = true → q = r' ∨ (q ≠ r' ∧ q ≠ r ∧ (look OB.dead h q).alive = true) := fun q hq => by
    rw [look_cons] at hq
    by_cases e : r' = q
    · exact .inl e.symm
    · rw [if_neg e, look_cons] at hq
      by_cases e2 : r = q
      · rw [if_pos e2] at hq; cases hq
      · rw [if_neg e2] at hq; exact .inr ⟨Ne.symm e, Ne.symm e2, hq⟩
  refine I.next hos htape hout (by omega) (fun k hk hA => hother k (fun e => by
      subst e
      rcases hm with hm | hm
      · omega
      · exact hA hm)) H (fun _ _ hp => .inl hp) (fun k i hp => by rw [hsz]; exact I.publ k i hp) (fun q hq => ?_) (fun q k c' hq hk => ?_) (fun q q' k c1 c2 hq hq' hk hk' => ?_) (fun q hq => ?_)
  · rcases hal q hq with e | ⟨e1, e2, e3⟩
    · subst e
      rw [look_cons, if_pos rfl]
      exact .inr ⟨b, c, cur', fr, if_pos rfl, ⟨hw, hfr⟩, hpub.1, h2, hle, hR, h1, fun i hi => ⟨(hpub.2 i hi).1, Nat.lt_of_lt_of_le (hpub.2 i hi).2 hlen⟩⟩
    · rw [look_cons, if_neg (Ne.symm e1), look_cons, if_neg (Ne.symm e2)]
      refine Hp_keep H (fun k c' hk => ⟨hother k (fun e => ?_), fun i hi => hi⟩) (if_neg e1) (fun x hx => ?_) (I.own q)
      · subst e; exact e2 (I.inj q r _ _ _ e3 ha hk hr)
      · have : x ≠ r' := fun e => by subst e; rw [look_hHas hh] at hx; cases hx
        exact if_neg this
  · rcases hal q hq with e | ⟨e1, e2, e3⟩
    · rw [if_pos e] at hk; cases hk; exact hm
    · rw [if_neg e1] at hk; exact I.mine q k c' e3 hk
  · rcases hal q hq with e | ⟨e1, e2, e3⟩ <;> rcases hal q' hq' with e' | ⟨e1', e2', e3'⟩
    · rw [e, e']
    · rw [if_pos e] at hk; rw [if_neg e1'] at hk'; cases hk
      exact absurd (I.inj q' r _ _ _ e3' ha hk' hr) e2'
    · rw [if_pos e'] at hk'; rw [if_neg e1] at hk; cases hk'
      exact absurd (I.inj q r _ _ _ e3 ha hk hr) e2
    · rw [if_neg e1] at hk; rw [if_neg e1'] at hk'; exact I.inj q q' k c1 c2 e3 e3' hk hk'
  · exact if_neg (fun e => by subst e; exact hk hq)

/-- A block of the call's own is let go of. -/
theorem Inv.drop (I : Inv E kp φ Pub h w) (r : Nat) : Inv E kp φ Pub ((r, .dead) :: h) w := by
  have hal : ∀ q, (look OB.dead ((r, OB.dead) :: h) q).alive = true → q ≠ r ∧ (look OB.dead h q).alive = true := fun q hq => by
    rw [look_cons] at hq
    by_cases e : r = q
    · rw [if_pos e] at hq; cases hq
    · rw [if_neg e] at hq; exact ⟨Ne.symm e, hq⟩
  exact I.next rfl rfl rfl (Nat.le_refl _) (fun _ _ _ => rfl) (Adv.refl _ _) (fun _ _ hp => .inl hp) I.publ (fun q hq => by
      rw [look_cons, if_neg (Ne.symm (hal q hq).1)]; exact I.own q) (fun q b c hq => I.mine q b c (hal q hq).2) (fun q q' b c c' hq hq' => I.inj q q' b c c' (hal q hq).2 (hal q' hq').2) (fun _ _ => rfl)

theorem Inv.drew (I : Inv E kp φ Pub h w) : Inv E kp φ Pub h w.drew :=
  I.next rfl rfl rfl (Nat.le_refl _) (fun _ _ _ => rfl) (fun _ _ hp => ⟨hp, by simp⟩) (fun _ _ hp => .inl hp) I.publ (fun q _ => Hp_keep (w := w) (w' := w.drew) (Pub := Pub) (fun _ _ hp => ⟨hp, by simp⟩) (fun _ _ _ => ⟨rfl, fun _ h => h⟩) rfl (fun _ _ => rfl) (I.own q)) I.mine I.inj (fun _ _ => rfl)
theorem adv_drew : Adv w Pub w.drew Pub := fun _ _ hp => ⟨hp, by simp⟩

/-- The nil row may be given any free name. -/
theorem Inv.nilRow (I : Inv E kp φ Pub h w) {r : Nat} (hf : (look OB.dead h r).alive = false) (hh : hHas r h = false) (hk : r ∉ kp) (t : TypeId) (sz pub : Nat) :
    Inv E kp (fun q => if q = r then none else φ q) Pub ((r, .row [] t sz pub) :: h) w := by
  have hal : ∀ q, (look OB.dead ((r, OB.row [] t sz pub) :: h) q).alive = true → q = r ∨ (q ≠ r ∧ (look OB.dead h q).alive = true) := fun q hq => by
    rw [look_cons] at hq
    by_cases e : r = q
    · exact .inl e.symm
    · rw [if_neg e] at hq; exact .inr ⟨Ne.symm e, hq⟩
  refine I.next rfl rfl rfl (Nat.le_refl _) (fun _ _ _ => rfl) (Adv.refl _ _) (fun _ _ hp => .inl hp) I.publ (fun q hq => ?_) (fun q b c hq hb => ?_) (fun q q' b c c' hq hq' hb hb' => ?_) (fun q hq => if_neg (fun e => by subst e; exact hk hq))
  · rcases hal q hq with e | ⟨e, hq⟩
    · subst e; rw [look_cons, if_pos rfl]; exact .inl ⟨if_pos rfl, rfl⟩
    · rw [look_cons, if_neg (Ne.symm e)]
      refine Hp_keep (Adv.refl _ _) (fun _ _ _ => ⟨rfl, fun _ h => h⟩) (if_neg e) (fun x hx => ?_) (I.own q)
      have : x ≠ r := fun e => by subst e; rw [look_hHas hh] at hx; cases hx
      exact if_neg this
  · rcases hal q hq with e | ⟨e, hq⟩
    · rw [if_pos e] at hb; cases hb
    · rw [if_neg e] at hb; exact I.mine q b c hq hb
  · rcases hal q hq with e | ⟨e, hq⟩
    · rw [if_pos e] at hb; cases hb
    · rcases hal q' hq' with e' | ⟨e', hq'⟩
      · rw [if_pos e'] at hb'; cases hb'
      · rw [if_neg e] at hb; rw [if_neg e'] at hb'; exact I.inj q q' b c c' hq hq' hb hb'

theorem RA_rename {r : Nat} {x : AV} {u : Value} {g : Option (Nat × Nat)} (H : Adv w Pub w' Pub') (hx : x.has r = false) (k : RA w Pub φ x u) : RA w' Pub' (fun q => if q = r then g else φ q) x u :=
  RA_mono H x u (fun q hq => if_neg (fun e => by subst e; rw [hx] at hq; cases hq)) k

theorem putL_app {α : Type} : ∀ (vs : List α) (k : Nat) (l : List α), k + vs.length ≤ l.length → (putL l k vs).take (k + vs.length) = l.take k ++ vs
  | [], k, l, h => by simp [putL]
  | x :: xs, k, l, h => by
    simp only [List.length_cons] at h
    simp only [putL, List.length_cons]
    rw [show k + (xs.length + 1) = (k + 1) + xs.length from by omega, putL_app xs (k + 1) (l.set k x) (by rw [List.length_set]; omega)]
    rw [List.take_succ_eq_append_getElem (by rw [List.length_set]; omega), List.getElem_set_self, List.take_set, List.set_eq_of_length_le (by rw [List.length_take]; omega)]
    simp
section
variable {P : Program}
theorem run_append_of_nil (base : Nat) (t ty e : TypeId) (i : TypeInfo) (ht : P.underlying t = some (.slice e)) (hi : P.info? e = some i)
    (a : Option Addr) (n cap c : Nat) (hn : n ≤ cap) (ha : a = none → n = 0) : (Builtin.append_ #[t, t] ty #[.slice a n cap, .slice none 0 c]).run P w = .ok (.slice a n cap) w := by
  cases a with
  | none =>
    simp [Builtin.append_, run_underlying ht, sizeOf, typeInfo, hi, Builtin.lenOf, Builtin.firstCells, hn]
  | some ad => simp [Builtin.append_, run_underlying ht, sizeOf, typeInfo, hi, Builtin.lenOf, Builtin.firstCells, hn, storeCells]

/-- What is appended: nothing, out of nil; or some cells that lie in memory. -/
def Src (w : World) (sz : Nat) (a : Option Addr) (m : Nat) (vs : List Value) : Prop :=
  vs.length = m * sz ∧ (∀ u ∈ vs, u.oneCell' = true) ∧ ((a = none ∧ m = 0) ∨ ∃ ad, a = some ad ∧ ∀ j u, vs[j]? = some u → w.cell? (ad.add j) = some u)

/-- **An append to a row of the call's own.** -/
theorem Inv.append (I : Inv E kp φ Pub h w) {r r' n sz pub : Nat} {e : TypeId} {cells news : List PV} {u : Value} (hl : look OB.dead h r = .row cells e sz pub) (hu : RA w Pub φ (.osl r n) u) (hn : n * sz = cells.length)
    (hf : (look OB.dead h r').alive = false) (hh : hHas r' h = false) (hk : r' ∉ kp)
    (t ty : TypeId) (i : TypeInfo) (z : Value) (bytes : Nat) (ht : P.underlying t = some (.slice e)) (hi : P.info? e = some i) (hz : i.zero = some z) (hsize : i.size = sz) (hby : i.bytes = bytes) (hzs : z.cells.size = sz) (hsz : 0 < sz)
    (a : Option Addr) (m c : Nat) (vs : List Value) (hv : RPs w Pub news vs) (hs : Src w sz a m vs) (h63 : n + m ≤ maxLen) (hbytes : (n + m) * bytes ≤ 140737488355328) :
    ∃ v' w' g, (Builtin.append_ #[t, t] ty #[u, .slice a m c]).run P w = .ok v' w' ∧ Inv E kp (fun q => if q = r' then g else φ q) Pub ((r', .row (cells ++ news) e sz pub) :: (r, .dead) :: h) w' ∧
      RA w' Pub (fun q => if q = r' then g else φ q) (.osl r' (n + m)) v' ∧ Adv w Pub w' Pub := by
  subst hsize
  subst hby
  have ha : (look OB.dead h r).alive = true := by rw [hl]; rfl
  have hne : r ≠ r' := fun e => by subst e; rw [ha] at hf; cases hf
  have hfd : (look OB.dead ((r, OB.dead) :: h) r').alive = false := by rw [look_cons, if_neg hne]; exact hf
  have hhd : hHas r' ((r, OB.dead) :: h) = false := by simp only [hHas, OB.has, hh]; rfl
  have hsmall : n + m ≤ 9223372036854775807 := by simp only [maxLen] at h63; omega
  obtain ⟨hs1, hs2, hs3⟩ := hs
  have hnl : news.length = m * i.size := by have := RPs_length hv; omega
  -- a new block
  have grow : ∀ (xs : List Value) (old : Nat), RPs w Pub cells xs → (∀ u ∈ xs, u.oneCell' = true) → old < n + m →
      ∃ g, Inv E kp (fun q => if q = r' then g else φ q) Pub ((r', .row (cells ++ news) e i.size pub) :: (r, .dead) :: h) (w.drew.alloc (.cells (xs.toArray ++ vs.toArray ++ Builtin.zeroCells z.cells (grownCap w (n + m) old e - (n + m))) e)) ∧
      RA (w.drew.alloc (.cells (xs.toArray ++ vs.toArray ++ Builtin.zeroCells z.cells (grownCap w (n + m) old e - (n + m))) e)) Pub (fun q => if q = r' then g else φ q) (.osl r' (n + m)) (.slice (some ⟨w.heap.size, 0, none⟩) (n + m) (grownCap w (n + m) old e)) ∧
      Adv w Pub (w.drew.alloc (.cells (xs.toArray ++ vs.toArray ++ Builtin.zeroCells z.cells (grownCap w (n + m) old e - (n + m))) e)) Pub := by
    intro xs old hx h1 ho
    have hge := grownCap_ge w (n + m) old e
    have hcm : grownCap w (n + m) old e ≤ maxLen := grownCap_le_maxLen w (n + m) old e h63
    have hxl := RPs_length hx
    have ID := (I.drop r).drew
    have hcs : (xs.toArray ++ vs.toArray ++ Builtin.zeroCells z.cells (grownCap w (n + m) old e - (n + m))).size = grownCap w (n + m) old e * i.size := by
      simp only [Array.size_append, List.size_toArray, size_zeroCells, hzs, hxl, ← hn, hs1, ← Nat.add_mul]
      congr 1; omega
    have htk : (xs.toArray ++ vs.toArray ++ Builtin.zeroCells z.cells (grownCap w (n + m) old e - (n + m))).toList.take (cells ++ news).length = xs ++ vs := by
      simp only [Array.toList_append]
      rw [show (cells ++ news).length = (xs ++ vs).length from by simp only [List.length_append]; omega]
      exact List.take_left
    have H := (adv_drew (w := w) (Pub := Pub)).trans (adv_alloc ID (.cells (xs.toArray ++ vs.toArray ++ Builtin.zeroCells z.cells (grownCap w (n + m) old e - (n + m))) e))
    refine ⟨some (w.heap.size, grownCap w (n + m) old e), ID.alloc hfd hhd hk _ (grownCap w (n + m) old e) (.inr ⟨w.heap.size, _, _, (0, 0), if_pos rfl, ⟨heap_alloc_new w.drew _, .inl rfl⟩, hcm, hcs, ?_, ?_, ?_, fun j hj => ?_⟩), ?_, H⟩
    · rw [hcs, List.length_append, ← hn, hnl, ← Nat.add_mul]; exact Nat.mul_le_mul_right _ hge
    · rw [htk]; exact RPs_mono H _ _ (RPs_append hx hv)
    · rw [htk]; intro y hy
      rcases List.mem_append.1 hy with hy | hy
      · exact h1 y hy
      · exact hs2 y hy
    · have := I.publ _ _ hj; exact absurd this (Nat.lt_irrefl _)
    · unfold RA; exact .inl ⟨w.heap.size, _, if_pos rfl, rfl, hge⟩
  have k := I.own r
  rw [hl] at k
  unfold RA at hu
  rcases k with ⟨k0, rfl⟩ | ⟨b, cc, cur, fr, k1, ⟨k2, k2'⟩, k3, k4, k5, k6, k7, k8⟩
  · -- nil
    have hn0 : n = 0 := by
      rcases Nat.eq_zero_or_pos n with h0 | h0
      · exact h0
      · have := Nat.mul_pos h0 hsz; simp at hn; omega
    subst hn0
    have hu' : u = .slice none 0 0 := by
      rcases hu with ⟨b, c, e1, _⟩ | ⟨_, _, e⟩
      · rw [k0] at e1; cases e1
      · exact e
    subst hu'
    rcases Nat.eq_zero_or_pos m with hm | hm
    · subst hm
      have hv0 : vs = [] := List.eq_nil_of_length_eq_zero (by omega)
      have hn0 : news = [] := List.eq_nil_of_length_eq_zero (by omega)
      subst hv0 hn0
      refine ⟨.slice none 0 0, w, none, ?_, (I.drop r).nilRow hfd hhd hk e i.size pub, by unfold RA; exact .inr ⟨if_pos rfl, rfl, rfl⟩, Adv.refl _ _⟩
      rcases hs3 with ⟨rfl, _⟩ | ⟨ad, rfl, _⟩
      · exact run_append_of_nil 0 t ty e i ht hi none 0 0 c (Nat.le_refl _) (fun _ => rfl)
      · simp [Builtin.append_, run_underlying ht, sizeOf, typeInfo, hi, Builtin.lenOf, Builtin.firstCells, loadCells, loadCellsFrom]
    · rcases hs3 with ⟨_, h0⟩ | ⟨ad, rfl, hc⟩
      · omega
      obtain ⟨g, G1, G2, G3⟩ := grow [] 0 (by unfold RPs; rfl) (by simp) (by omega)
      have hr := run_append_nil (P := P) w t ty e i z ht hi hz ad m c vs hs1 hc hm (by omega) (by have hb := hbytes; simp only [Nat.zero_add] at hb; omega)
      simp only [Nat.zero_add, List.nil_append, Array.empty_append] at G1 G2 G3 ⊢
      exact ⟨_, _, g, hr, G1, G2, G3⟩
  · have hu' : u = .slice (some ⟨b, 0, none⟩) n cc ∧ n ≤ cc := by
      rcases hu with ⟨b', c', e1, e2, e3⟩ | ⟨e1, _, _⟩
      · rw [k1] at e1; cases e1; exact ⟨e2, e3⟩
      · rw [k1] at e1; cases e1
    obtain ⟨rfl, hnc⟩ := hu'
    have hxl : (cur.toList.take cells.length).length = n * i.size := by rw [List.length_take, Nat.min_eq_left (by rw [Array.length_toList]; exact k5), hn]
    by_cases hroom : n + m ≤ cc
    · -- in its block
      have hfit : n * i.size + vs.length ≤ cur.size := by rw [hs1, k4, ← Nat.add_mul]; exact Nat.mul_le_mul_right _ hroom
      have place : ∀ (w1 : World) (cur1 : Array Value), w1.os = w.os → w1.tape = w.tape → w1.output = w.output → w1.heap.size = w.heap.size → (∀ k, k ≠ b → w1.heap[k]? = w.heap[k]?) →
          w1.heap[b]? = some (.cells cur1 e fr) → cur1.size = cur.size → cur1.toList.take (cells ++ news).length = cur.toList.take cells.length ++ vs →
          ∃ g, Inv E kp (fun q => if q = r' then g else φ q) Pub ((r', .row (cells ++ news) e i.size pub) :: (r, .dead) :: h) w1 ∧ RA w1 Pub (fun q => if q = r' then g else φ q) (.osl r' (n + m)) (.slice (some ⟨b, 0, none⟩) (n + m) cc) ∧ Adv w Pub w1 Pub := by
        intro w1 cur1 s1 s2 s3 s4 hoth hb1 hsz1 htk
        have H : Adv w Pub w1 Pub := fun q j hp => ⟨hp, by
          by_cases hq : q = b
          · subst hq
            have hj := (k8 j hp).2
            rw [cell_of_row w1 q j cur1 e fr hb1, cell_of_row w q j cur e fr k2]
            have e1 : cur1.toList[j]? = ((cur1.toList.take (cells ++ news).length)[j]?) := by rw [List.getElem?_take_of_lt (by rw [List.length_append]; omega)]
            rw [← Array.getElem?_toList, ← Array.getElem?_toList, e1, htk, List.getElem?_append_left (by omega), List.getElem?_take_of_lt hj]
          · exact World.cell?_of_block (a := ⟨q, j, none⟩) (hoth q hq)⟩
        refine ⟨some (b, cc), I.inplace hl k1 hf hh hk s1 s2 s3 s4 hoth H hb1 (by rw [hsz1]; exact k2') (by rw [hsz1]; exact k4) ?_ ?_ ?_ (by simp), by unfold RA; exact .inl ⟨b, cc, if_pos rfl, rfl, hroom⟩, H⟩
        · rw [hsz1, List.length_append]; omega
        · rw [htk]; exact RPs_mono H _ _ (RPs_append k6 hv)
        · rw [htk]; intro y hy
          rcases List.mem_append.1 hy with hy | hy
          · exact k7 y hy
          · exact hs2 y hy
      rcases hs3 with ⟨rfl, rfl⟩ | ⟨ad, rfl, hc⟩
      · have hv0 : vs = [] := List.eq_nil_of_length_eq_zero (by omega)
        have hn0 : news = [] := List.eq_nil_of_length_eq_zero (by omega)
        subst hv0 hn0
        obtain ⟨g, G1, G2, G3⟩ := place w cur rfl rfl rfl rfl (fun _ _ => rfl) k2 rfl (by simp)
        exact ⟨_, w, g, run_append_of_nil 0 t ty e i ht hi _ n cc c hnc (fun h => by cases h), G1, G2, G3⟩
      · have hst := run_storeCells_cells (P := P) b (n * i.size) vs 0 w (fun j hj => by
            rw [cell_of_row w b _ cur e fr k2, Array.getElem?_eq_getElem (by omega)]; rfl) (fun j hj => by
            unfold World.frozen?; simp only [k2]
            rcases k2' with h0 | h0
            · subst h0; simp
            · simp; omega) hs2
        have hfc := run_firstCells_some (P := P) w i.size m ad m c vs hs1 hc
        have hr : (Builtin.append_ #[t, t] ty #[.slice (some ⟨b, 0, none⟩) n cc, .slice (some ad) m c]).run P w = .ok (.slice (some ⟨b, 0, none⟩) (n + m) cc) (w.setCells b (n * i.size) vs) := by
          simp only [Nat.add_zero] at hst
          simp [Builtin.append_, run_underlying ht, sizeOf, typeInfo, hi, Builtin.lenOf, hroom, hfc, Addr.add_mid, hst]
        obtain ⟨s1, s2, s3⟩ := streams_setCells b vs (n * i.size) w
        obtain ⟨cur', c1, c2, c3⟩ := heap_setCells_same b vs (n * i.size) w cur e fr k2
        rw [putL_foldl] at c3
        obtain ⟨g, G1, G2, G3⟩ := place (w.setCells b (n * i.size) vs) cur' s1 s2 s3 (size_setCells _ _ _ _) (fun k hk => heap_setCells_other b vs _ w k hk) c1 c2 (by
            rw [c3, hn]
            have hle : cells.length + vs.length ≤ cur.toList.length := by have := Array.length_toList (xs := cur); omega
            rw [show (cells ++ news).length = cells.length + vs.length from by rw [List.length_append]; omega]
            exact putL_app vs cells.length cur.toList hle)
        exact ⟨_, _, g, hr, G1, G2, G3⟩
    · -- in another one
      rcases hs3 with ⟨_, h0⟩ | ⟨ad, rfl, hc⟩
      · omega
      have holds : ∀ j u, (cur.toList.take cells.length)[j]? = some u → w.cell? ((⟨b, 0, none⟩ : Addr).add j) = some u := fun j u hj => by
        rw [Addr.add_mid, Nat.zero_add, cell_of_row w b j cur e fr k2]
        rw [List.getElem?_take] at hj
        split at hj
        · simpa using hj
        · cases hj
      have hr := run_append_grow (P := P) w t ty e i z ht hi hz ⟨b, 0, none⟩ n cc _ hxl holds ad m c vs hs1 hc (by omega) (by omega) (growslice_fits (by omega) hbytes)
      obtain ⟨g, G1, G2, G3⟩ := grow _ cc k6 k7 (by omega)
      exact ⟨_, _, g, hr, G1, G2, G3⟩
end

/-! ### A block of the call's own is shared -/
theorem Inv.share (I : Inv E kp φ Pub h w) {r : Nat} {cells : List PV} {t : TypeId} {sz pub : Nat} {ob : OB} (hl : look OB.dead h r = ob)
    (hob : ob = .row cells t sz pub ∨ ∃ avs, ob = .box avs t ∧ AV.toPs avs = some cells ∧ sz = cells.length) :
    ∃ Pub', Inv E kp φ Pub' ((r, .row cells t sz cells.length) :: h) w ∧ Adv w Pub w Pub' ∧ (∀ b c, φ r = some (b, c) → RPc w Pub' cells b 0 ∧ c ≤ maxLen) ∧ (φ r = none → cells = []) := by
  have ha : (look OB.dead h r).alive = true := by
    rw [hl]; rcases hob with rfl | ⟨avs, rfl, _⟩ <;> rfl
  have k := I.own r
  rw [hl] at k
  have k' : (φ r = none ∧ cells = []) ∨ ∃ b c cur fr, φ r = some (b, c) ∧ (w.heap[b]? = some (.cells cur t fr) ∧ FrOk cur.size fr) ∧ c ≤ maxLen ∧ cur.size = c * sz ∧ cells.length ≤ cur.size ∧
      RPs w Pub cells (cur.toList.take cells.length) ∧ (∀ u ∈ cur.toList.take cells.length, u.oneCell' = true) ∧ ∀ i, Pub b i → i < cells.length := by
    rcases hob with rfl | ⟨avs, rfl, h1, h2⟩
    · rcases k with k | ⟨b, c, cur, fr, k1, k2, k3, k4, k5, k6, k7, k8⟩
      · exact .inl k
      · exact .inr ⟨b, c, cur, fr, k1, k2, k3, k4, k5, k6, k7, fun i hi => (k8 i hi).2⟩
    · obtain ⟨b, cur, k1, k2, k3, k4, k5⟩ := k
      have k6 := toPs_R h1 k3
      have hlen := RPs_length k6
      rw [Array.length_toList] at hlen
      refine .inr ⟨b, 1, cur, (0, 0), k1, ⟨k2, .inl rfl⟩, by unfold maxLen; omega, by omega, by omega, ?_, ?_, fun i hi => absurd hi (k5 i)⟩
      · rw [List.take_of_length_le (by rw [Array.length_toList]; omega)]; exact k6
      · rw [List.take_of_length_le (by rw [Array.length_toList]; omega)]; exact k4
  have hal : ∀ q, (look OB.dead ((r, OB.row cells t sz cells.length) :: h) q).alive = true → (look OB.dead h q).alive = true := fun q hq => by
    rw [look_cons] at hq
    by_cases e : r = q
    · subst e; exact ha
    · rw [if_neg e] at hq; exact hq
  rcases k' with ⟨k1, k2⟩ | ⟨b, c, cur, fr, k1, k2, k3, k4, k5, k6, k7, k8⟩
  · refine ⟨Pub, ?_, Adv.refl _ _, (fun b c hb => by rw [k1] at hb; cases hb), fun _ => k2⟩
    refine I.next rfl rfl rfl (Nat.le_refl _) (fun _ _ _ => rfl) (Adv.refl _ _) (fun _ _ hp => .inl hp) I.publ (fun q hq => ?_) (fun q b c hq hb => I.mine q b c (hal q hq) hb) (fun q q' b c c' hq hq' hb hb' => I.inj q q' b c c' (hal q hq) (hal q' hq') hb hb') (fun _ _ => rfl)
    rw [look_cons]
    split
    · next e => subst e; exact .inl ⟨k1, k2⟩
    · exact I.own q
  · have H : Adv w Pub w (fun x i => Pub x i ∨ (x = b ∧ i < cells.length)) := fun x i hp => ⟨.inl hp, rfl⟩
    refine ⟨fun x i => Pub x i ∨ (x = b ∧ i < cells.length), ?_, H, fun b' c' hb => ?_, (fun h0 => by rw [k1] at h0; cases h0)⟩
    · refine I.next rfl rfl rfl (Nat.le_refl _) (fun _ _ _ => rfl) H (fun x i hp => ?_) (fun x i hp => ?_) (fun q hq => ?_) (fun q b c hq hb => I.mine q b c (hal q hq) hb) (fun q q' b c c' hq hq' hb hb' => I.inj q q' b c c' (hal q hq) (hal q' hq') hb hb') (fun _ _ => rfl)
      · rcases hp with hp | ⟨rfl, _⟩
        · exact .inl hp
        · exact .inr (I.mine r x c ha k1)
      · rcases hp with hp | ⟨rfl, _⟩
        · exact I.publ x i hp
        · exact I.lt ha k1
      · have hq' := hal q hq
        rw [look_cons]
        split
        · next e =>
          subst e
          exact .inr ⟨b, c, cur, fr, k1, k2, k3, k4, k5, RPs_mono H _ _ k6, k7, fun i hi => by
            rcases hi with hi | ⟨_, hi⟩
            · exact ⟨k8 i hi, k8 i hi⟩
            · exact ⟨hi, hi⟩⟩
        · next e =>
          refine Hp_keep H (fun x c' hx => ⟨rfl, fun i hi => ?_⟩) rfl (fun _ _ => rfl) (I.own q)
          rcases hi with hi | ⟨rfl, _⟩
          · exact hi
          · exact absurd (I.inj r q x c c' ha hq' k1 hx) e
    · rw [k1] at hb; cases hb
      refine ⟨RPc_of fun i x hx => ?_, k3⟩
      obtain ⟨u, hu, hR⟩ := RPs_get k6 hx
      have hi : i < cells.length := (List.getElem?_eq_some_iff.1 hx).1
      rw [List.getElem?_take_of_lt hi] at hu
      refine ⟨u, ?_, .inr ⟨rfl, by omega⟩, k7 u (List.mem_of_getElem? (by rw [List.getElem?_take_of_lt hi]; exact hu)), RP_mono H x u hR⟩
      rw [Nat.zero_add, cell_of_row w b i cur t fr k2.1]
      simpa using hu
end
end Go.Proofs.Ytnopdnclefopbaa
