/- A part of the proof: contracts of functions and what they stand on. Written shorter and merged by a program (pack.py). -/
import Derived.Test.YtcebndkiagbddaaGreatDoorK12
set_option linter.unusedVariables false
set_option linter.unusedSimpArgs false
set_option maxRecDepth 100000
set_option maxHeartbeats 4000000
open Eq renaming refl -> Qxo
open Nat renaming le_of_ble_eq_true -> Qxp, zero_add -> Qxu, beq -> Qxy, blt -> Qxz
open List renaming length_append -> Qxq, length_cons -> Qxr, length_nil -> Qxs, append_nil -> Qxt, mem_cons_of_mem -> Qxv, length -> Qxx, mem_append_right -> QxA, mem_append_left -> QxC, mem_singleton -> QxD, mem_cons -> QxE, mem_cons_self -> QxH
open Bool renaming or_eq_false_iff -> Qxw, and_eq_true -> QxB, or_false -> QxF, false_or -> QxG
namespace Go.Proofs.YtcebndkiagbddaaGreatDoor
section
open Go.RowKit
structure Ob (c rest:Prop):Prop where
 l:c
 r:rest
theorem o0 {C K:Prop} (k:K) (h:C:=by exact Eq.refl _):Ob C K:=⟨h,k⟩
theorem o1 {C K:Prop} (k:K) (h:C:=by first | (exact fun _ _ _ _=>rfl) | (exact Eq.refl _) | omega):Ob C K:=⟨h,k⟩
theorem o2 {C K:Prop} (k:K) (h:C:=by first | (exact fun _ _ _ _=>rfl) | (exact Eq.refl _)):Ob C K:=⟨h,k⟩
theorem o3 {C K:Prop} (k:K) (h:C:=by first | assumption | omega):Ob C K:=⟨h,k⟩
theorem o4 {C K:Prop} (k:K) (h:C:=by omega):Ob C K:=⟨h,k⟩
theorem o5 {C K:Prop} (k:K) (h:C:=by first | (exact K_or) | (exact fun _ _ _ _=>rfl) | (exact Eq.refl _) | assumption | omega):Ob C K:=⟨h,k⟩
theorem o6 {C K:Prop} (k:K) (h:C:=by first | (exact nsL (Qk7 (by decide))) | (exact nsE (Qk7 (by decide))) | (exact congrArg List.length (congrArg PeerS.ns Qk8).symm) | (exact eqN (congrArg PeerS.ns Qk8).symm) | (exact st_K (fun a ha=>Qk7 ha) Qk8 rfl) | (exact Eq.refl _) | omega | (exact Nat.le_of_ble_eq_true rfl)):Ob C K:=⟨h,k⟩
theorem o7 {C K:Prop} (k:K) (h:C:=by first | (exact Eq.refl _) | omega | (intro hg;((intro hq;((simp_all;done)))))):Ob C K:=⟨h,k⟩
theorem o8 {C K:Prop} (k:K) (h:C:=by first | (rw [hR];done) | (rw [hR];exact Eq.refl _)):Ob C K:=⟨h,k⟩
theorem o9 {C K:Prop} (k:K) (h:C:=by first | (exact Xp (fun _ _ _ _=>rfl) (fun j hj=>by (obtain rfl:j=0:=by omega);(show EV.s (wrds.getD (L.getD ((i:Int)).toNat QS).k.toNat []++[61]++_)=EV.s ((ls1 (L.getD i QS)).1++61::(ls1 (L.getD i QS)).2));rw [hls,hw,hv,List.append_assoc];rfl)) | (exact Eq.refl _) | omega):Ob C K:=⟨h,k⟩
theorem o10 {C K:Prop} (k:K) (h:C:=by first | (exact Eq.refl _) | (intro hg;((intro hq;((simp_all;done)))))):Ob C K:=⟨h,k⟩
theorem o11 {C K:Prop} (k:K) (h:C:=by intro _;exact Eq.refl _):Ob C K:=⟨h,k⟩
theorem o12 {C K:Prop} (k:K) (h:C:=by first | (exact wl1 _) | (exact wl2 _ (by rw [<- hv];exact hvl)) | (exact Eq.refl _) | omega):Ob C K:=⟨h,k⟩
theorem o13 {C K:Prop} (k:K) (h:C:=by simp only [SrcE.len,Nat.zero_add,List.length_append,List.length_cons,List.length_nil];omega):Ob C K:=⟨h,k⟩
theorem o14 {C K:Prop} (k:K) (h:C:=by first | (exact Eq.refl _) | (simp [SrcE.len];done)):Ob C K:=⟨h,k⟩
theorem o15 {C K:Prop} (k:K) (h:C:=by first | (exact Eq.refl _) | (exact fun hg=>Yz hg) | (exact fun hg=>hg)):Ob C K:=⟨h,k⟩
theorem o16 {C K:Prop} (k:K) (h:C:=by first | (exact Xp (fun _ _ _ _=>rfl) (fun j hj=>by (obtain rfl:j=0:=by omega);(show EV.s (wrds.getD (L.getD ((i:Int)).toNat QS).k.toNat []++[61]++_)=EV.s ((ls1 (L.getD i QS)).1++61::(ls1 (L.getD i QS)).2));rw [hls,hw,hv,List.append_assoc];rfl)) | (exact Eq.refl _) | (exact Nat.le_of_ble_eq_true rfl) | (intro hg;((intro hq;((simp_all;done)))))):Ob C K:=⟨h,k⟩
theorem o17 {C K:Prop} (k:K) (h:C:=by first | (exact Eq.refl _) | omega):Ob C K:=⟨h,k⟩
theorem o18 {C K:Prop} (k:K) (h:C:=by rw [hR];done):Ob C K:=⟨h,k⟩
theorem o19 {C K:Prop} (k:K) (h:C:=by first | exact hO.symm | (exact Eq.refl _) | omega | (intro hg;((intro hq;((simp_all;done)))))):Ob C K:=⟨h,k⟩
theorem o20 {C K:Prop} (k:K) (h:C:=by first | (exact Eq.refl _) | omega | (exact Nat.le_of_ble_eq_true rfl)):Ob C K:=⟨h,k⟩
theorem o21 {C K:Prop} (k:K) (h:C:=by first | (exact Xp (fun _ _ _ _=>rfl) (fun j hj=>by (obtain rfl:j=0:=by omega);exact Eq.refl _)) | (exact Eq.refl _) | (exact Nat.le_of_ble_eq_true rfl)):Ob C K:=⟨h,k⟩
theorem o22 {C K:Prop} (k:K) (h:C:=by first | (exact fun hg=>Yz hg) | (exact fun hg=>hg)):Ob C K:=⟨h,k⟩
theorem o23 {C K:Prop} (k:K) (h:C:=by first | (exact Eq.refl _) | omega | (simp only [SrcE.len,Nat.zero_add,List.length_append,List.length_cons,List.length_nil];omega)):Ob C K:=⟨h,k⟩
theorem o24 {C K:Prop} (k:K) (h:C:=by simp [SrcE.len];done):Ob C K:=⟨h,k⟩
theorem o25 {C K:Prop} (k:K) (h:C:=by first | (rw [hR.1];done) | (rw [hR.2];done)):Ob C K:=⟨h,k⟩
theorem o26 {C K:Prop} (k:K) (h:C:=by exact hR.symm):Ob C K:=⟨h,k⟩
theorem o27 {C K:Prop} (k:K) (h:C:=by first | (exact fun a ha b _=>QvB (Nat.ne_of_lt ha) b) | (exact isL_5 rfl rfl rfl rfl rfl) | (exact Eq.refl _) | omega | (intro hg;((intro hq;((simp_all;done)))))):Ob C K:=⟨h,k⟩
theorem o28 {C K:Prop} (k:K) (h:C:=by exact fun hg=>ZQ hg):Ob C K:=⟨h,k⟩
theorem o29 {C K:Prop} (k:K) (h:C:=by first | (exact hpl.symm) | (exact fun _ _ _ _=>rfl) | (exact Eq.refl _) | omega | (simp only [SrcE.len,Nat.zero_add,List.length_append,List.length_cons,List.length_nil];omega)):Ob C K:=⟨h,k⟩
theorem o30 {C K:Prop} (k:K) (h:C:=by first | (exact hpl) | (rw [hQ];done) | (rw [hQ];exact fun _ _ _ _=>rfl) | (exact hE.symm) | (exact Eq.refl _) | omega):Ob C K:=⟨h,k⟩
theorem o31 {C K:Prop} (k:K) (h:C:=by first | (exact hpl) | (rw [hQ];exact nsL (Qeq (by decide))) | (rw [hQ];exact nsE (Qeq (by decide))) | (rw [hQ];exact congrArg List.length (congrArg PeerS.ns (Qep hi0)).symm) | (rw [hQ];exact eqN (congrArg PeerS.ns (Qep hi0)).symm) | (exact K_or) | (rw [hQ];exact st_K (fun a ha=>Qeq ha) (Qep hi0) rfl) | (exact fun _ _ _ _=>rfl) | (exact hE.symm) | (exact Eq.refl _) | omega | (simp only [SrcE.len,Nat.zero_add,List.length_append,List.length_cons,List.length_nil];omega)):Ob C K:=⟨h,k⟩
theorem o32 {C K:Prop} (k:K) (h:C:=by first | (exact QrJ hpl) | (exact QvD hpl) | (exact hml.symm) | (exact fun _ _ _ _=>rfl) | (exact Eq.refl _)):Ob C K:=⟨h,k⟩
theorem o33 {C K:Prop} (k:K) (h:C:=by first | (exact wl1 _) | (exact wl2 _ (by rw [<- hv];exact hvl)) | (exact Eq.refl _) | omega | (simp only [SrcE.len,Nat.zero_add,List.length_append,List.length_cons,List.length_nil];omega)):Ob C K:=⟨h,k⟩
theorem o34 {C K:Prop} (k:K) (h:C:=by first | (intro _;exact Eq.refl _) | (exact fun hg=>Yz hg) | (exact fun hg=>hg)):Ob C K:=⟨h,k⟩
theorem o35 {C K:Prop} (k:K) (h:C:=by exact hO.symm):Ob C K:=⟨h,k⟩
theorem o36 {C K:Prop} (k:K) (h:C:=by first | (exact Eq.refl _) | omega | (simp only [SrcE.len,Nat.zero_add,List.length_append,List.length_cons,List.length_nil];omega) | (intro hg;((intro hq;((simp_all;done)))))):Ob C K:=⟨h,k⟩
theorem o37 {C K:Prop} (k:K) (h:C:=by first | omega | (exact fun hg=>hg) | (intro hg;((simp at hg;omega)))):Ob C K:=⟨h,k⟩
theorem o38 {C K:Prop} (k:K) (h:C:=by first | (intro _;exact Eq.refl _) | (exact fun hg=>ZQ hg) | (exact fun hg=>hg) | (intro hg;((simp_all;done)))):Ob C K:=⟨h,k⟩
theorem o39 {C K:Prop} (k:K) (h:C:=by first | (intro _;exact Eq.refl _) | (exact fun hg=>ZQ hg)):Ob C K:=⟨h,k⟩
theorem o40 {C K:Prop} (k:K) (h:C:=by first | (exact Eq.refl _) | (intro _;exact Eq.refl _)):Ob C K:=⟨h,k⟩
theorem o41 {C K:Prop} (k:K) (h:C:=by simp_all;done):Ob C K:=⟨h,k⟩
theorem o42 {C K:Prop} (k:K) (h:C:=by first | (intro _;exact Eq.refl _) | omega | (exact fun hg=>Yz hg) | (exact fun hg=>hg)):Ob C K:=⟨h,k⟩
theorem o43 {C K:Prop} (k:K) (h:C:=by first | omega | (simp [SrcE.len];omega)):Ob C K:=⟨h,k⟩
theorem o44 {C K:Prop} (k:K) (h:C:=by first | omega | (exact fun hg=>ZQ hg) | (exact fun hg=>hg) | (intro hg;((intro hq;exact QlE hg (Yz hq))))):Ob C K:=⟨h,k⟩
theorem o45 {C K:Prop} (k:K) (h:C:=by first | (exact Eq.refl _) | (intro _;exact Eq.refl _) | omega | (simp [SrcE.len];done)):Ob C K:=⟨h,k⟩
theorem o46 {C K:Prop} (k:K) (h:C:=by first | (rw [hR];done) | (simp_all;done)):Ob C K:=⟨h,k⟩
theorem o47 {C K:Prop} (k:K) (h:C:=by first | (exact Eq.refl _) | (intro hg;((simp_all;done)))):Ob C K:=⟨h,k⟩
theorem o48 {C K:Prop} (k:K) (h:C:=by first | (exact hsl.symm) | (exact hst) | (exact Eq.refl _) | assumption | omega):Ob C K:=⟨h,k⟩
theorem o49 {C K:Prop} (k:K) (h:C:=by first | (exact Qeo (by decide)) | (exact (Qeo (by decide)).symm) | (rw [QbM (by decide),QbM (by decide)];done) | (exact QrH (fun _ _ _ _=>rfl) (QrI (Eq.refl _) (Eq.refl _) (Eq.refl _) (Eq.refl _) (Eq.refl _))) | (exact Eq.refl _) | omega | (intro hg;((intro hq;((simp_all;done)))))):Ob C K:=⟨h,k⟩
theorem o50 {C K:Prop} (k:K) (h:C:=by first | (intro _;exact Eq.refl _) | (exact fun _ _=>Eq.refl _) | (exact fun hg=>ZQ hg)):Ob C K:=⟨h,k⟩
theorem o51 {C K:Prop} (k:K) (h:C:=by first | (exact Eq.refl _) | (simp only [SrcE.len,Nat.zero_add,List.length_append,List.length_cons,List.length_nil];omega)):Ob C K:=⟨h,k⟩
theorem o52 {C K:Prop} (k:K) (h:C:=by first | (rw [hR];done) | omega | (simp_all;done)):Ob C K:=⟨h,k⟩
theorem o53 {C K:Prop} (k:K) (h:C:=by first | (exact Eq.refl _) | omega | (intro hg;((intro hq;((simp_all;done))))) | (simp_all;done)):Ob C K:=⟨h,k⟩
theorem o54 {C K:Prop} (k:K) (h:C:=by first | omega | (intro hg;((intro hq;((simp_all;done))))) | (simp_all;done)):Ob C K:=⟨h,k⟩
theorem o55 {C K:Prop} (k:K) (h:C:=by rw [hr];done):Ob C K:=⟨h,k⟩
theorem o56 {C K:Prop} (k:K) (h:C:=by first | (intro _;exact Eq.refl _) | (exact fun hg=>hg)):Ob C K:=⟨h,k⟩
theorem o57 {C K:Prop} (k:K) (h:C:=by first | (rw [hR];done) | (rw [hR];rfl)):Ob C K:=⟨h,k⟩
theorem o58 {C K:Prop} (k:K) (h:C:=by unfold mst;simp_all;done):Ob C K:=⟨h,k⟩
theorem o59 {C K:Prop} (k:K) (h:C:=by first | (intro _;exact Eq.refl _) | (exact fun _ _=>Eq.refl _) | (exact fun hg=>ZQ hg) | (intro hg;((intro hq;assumption)))):Ob C K:=⟨h,k⟩
theorem o60 {C K:Prop} (k:K) (h:C:=by first | (intro _;exact Eq.refl _) | (exact fun _ _=>Eq.refl _)):Ob C K:=⟨h,k⟩
theorem o61 {C K:Prop} (k:K) (h:C:=by first | (intro _;exact Eq.refl _) | (exact fun hg=>ZQ hg) | (intro hg;((intro hq;assumption)))):Ob C K:=⟨h,k⟩
theorem o62 {C K:Prop} (k:K) (h:C:=by first | (exact wl1 _) | (exact Eq.refl _) | omega):Ob C K:=⟨h,k⟩
theorem o63 {C K:Prop} (k:K) (h:C:=by first | (exact wl1 _) | (exact Eq.refl _) | omega | (simp only [SrcE.len,Nat.zero_add,List.length_append,List.length_cons,List.length_nil];omega) | (simp_all;done)):Ob C K:=⟨h,k⟩
theorem o64 {C K:Prop} (k:K) (h:C:=by simp [cS];done):Ob C K:=⟨h,k⟩
theorem o65 {C K:Prop} (k:K) (h:C:=by first | (exact fun _ _ _ _=>rfl) | (exact Eq.refl _) | omega | (simp only [SrcE.len,Nat.zero_add,List.length_append,List.length_cons,List.length_nil];omega)):Ob C K:=⟨h,k⟩
theorem o66 {C K:Prop} (k:K) (h:C:=by first | (show s - 1=(A).length;omega) | (exact QgD hs) | (exact QgE hs) | (exact Eq.refl _) | (simp [SrcE.len];omega)):Ob C K:=⟨h,k⟩
theorem o67 {C K:Prop} (k:K) (h:C:=by first | omega | (simp only [pk,h1,cond_true,cond_false,Bool.not_true,Bool.not_false,Bool.and_true,Bool.true_and,Bool.and_false,Bool.false_and,Bool.or_true,Bool.true_or,Bool.or_false,Bool.false_or,Int.reduceToNat,UInt8.reduceOfNat];done)):Ob C K:=⟨h,k⟩
theorem o68 {C K:Prop} (k:K) (h:C:=by first | omega | (exact fun hg=>Yz hg) | (exact fun hg=>hg)):Ob C K:=⟨h,k⟩
theorem o69 {C K:Prop} (k:K) (h:C:=by exact Qek hp):Ob C K:=⟨h,k⟩
theorem o70 {C K:Prop} (k:K) (h:C:=by first | (rw [Int.toNat_natCast,hg];done) | (exact Eq.refl _)):Ob C K:=⟨h,k⟩
theorem o71 {C K:Prop} (k:K) (h:C:=by first | (exact QgX (v:=s.2.getD s.1 []) rfl (by omega) (hz.trans (congrArg (List.set s.2 (QH (ns.take s.1) n).length) hg.symm))) | (exact Eq.refl _) | omega | (simp only [SrcE.len,Nat.zero_add,List.length_append,List.length_cons,List.length_nil];omega)):Ob C K:=⟨h,k⟩
theorem o72 {C K:Prop} (k:K) (h:C:=by first | omega | (exact fun hg=>ZQ hg) | (exact fun hg=>Yz hg) | (exact fun hg=>hg) | (intro hg;((simp at hg;omega)))):Ob C K:=⟨h,k⟩
theorem o73 {C K:Prop} (k:K) (h:C:=by first | (exact congrArg List.length e0.symm) | (exact eqN e0.symm) | (exact fun _ _ _ _=>rfl) | (exact Eq.refl _) | omega):Ob C K:=⟨h,k⟩
theorem o74 {C K:Prop} (k:K) (h:C:=by first | (exact Eq.refl _) | omega | (simp [SrcE.len];omega)):Ob C K:=⟨h,k⟩
theorem o75 {C K:Prop} (k:K) (h:C:=by first | (exact hl1) | (exact QbL rfl hM) | (exact fun _ _ _ _=>rfl) | (exact Eq.refl _) | (exact Nat.le_of_ble_eq_true rfl)):Ob C K:=⟨h,k⟩
theorem o76 {C K:Prop} (k:K) (h:C:=by first | (exact congrArg List.length hA) | (exact eqN hA) | (exact fun _ _ _ _=>rfl) | (exact Eq.refl _) | omega):Ob C K:=⟨h,k⟩
theorem o77 {C K:Prop} (k:K) (h:C:=by first | (exact Eq.refl _) | (simp_all;done)):Ob C K:=⟨h,k⟩
theorem o78 {C K:Prop} (k:K) (h:C:=by first | (exact Xp (fun _ _ _ _=>rfl) (p5 (Eq.refl _) (Eq.refl _) (Eq.refl _) (Eq.refl _) (Eq.refl _))) | (exact Eq.refl _) | (exact Nat.le_of_ble_eq_true rfl) | (intro hg;((intro hq;((simp_all;done)))))):Ob C K:=⟨h,k⟩
theorem o79 {C K:Prop} (k:K) (h:C:=by first | (exact Eq.refl _) | omega | (simp [SrcE.len];done)):Ob C K:=⟨h,k⟩
theorem o80 {C K:Prop} (k:K) (h:C:=by first | (exact fun hg=>hg) | (intro hg;((simp at hg;omega)))):Ob C K:=⟨h,k⟩
theorem o81 {C K:Prop} (k:K) (h:C:=by first | (exact fun _ _ _ _=>rfl) | (exact Eq.refl _) | (exact fun hg=>Yz hg) | (exact fun hg=>hg)):Ob C K:=⟨h,k⟩
theorem o82 {C K:Prop} (k:K) (h:C:=by first | (intro _;exact Eq.refl _) | (exact fun hg=>hg) | (intro hg;((intro hq;exact QlE hg (Yz hq))))):Ob C K:=⟨h,k⟩
theorem o83 {C K:Prop} (k:K) (h:C:=by first | (rw [hK];done) | (exact Eq.refl _) | (exact fun _ _=>Eq.refl _)):Ob C K:=⟨h,k⟩
theorem o84 {C K:Prop} (k:K) (h:C:=by first | (exact hpo) | (exact congrArg List.length hz) | (exact eqP hz) | (exact Eq.refl _)):Ob C K:=⟨h,k⟩
theorem o85 {C K:Prop} (k:K) (h:C:=by first | (exact fun _ _ _ _=>rfl) | (exact congrArg List.length eM0.symm) | (exact eqN eM0.symm) | (rw [hs];done) | (exact Eq.refl _) | omega):Ob C K:=⟨h,k⟩
theorem o86 {C K:Prop} (k:K) (h:C:=by first | (exact hl1) | (exact hl2) | (exact QbL rfl hM) | (exact QbL rfl hg) | (exact fun _ _ _ _=>rfl) | (rw [hs];done) | (exact Eq.refl _) | omega | (exact Nat.le_of_ble_eq_true rfl)):Ob C K:=⟨h,k⟩
theorem o87 {C K:Prop} (k:K) (h:C:=by first | (exact hl1) | (exact hl2) | (exact eqN hM) | (exact eqN hg) | (exact fun _ _ _ _=>rfl) | (rw [hs];done) | (exact Eq.refl _) | omega):Ob C K:=⟨h,k⟩
theorem o88 {C K:Prop} (k:K) (h:C:=by first | (exact hcl) | (exact congrArg List.length hcM) | (exact eqN hcM) | (refine Qk0 (p:=JL (rA l i) i (gE l i)) ?_ hcP;exact congrArg (fun n=>[EV.s (Wy i),.s (Qsv (rA l i)),.s (endL.getD (pk (rA l i).a 5).toNat []),.i (pk (rA l i).b 100),EV.lz n 2 (fun a b=>Qz ((WU (gE l i)).getD a []) b)]) (X1 (gE l i)).symm) | (exact fun _ _ _ _=>rfl) | (exact hpt) | (exact Eq.refl _) | omega | (exact Nat.le_of_ble_eq_true rfl)):Ob C K:=⟨h,k⟩
theorem o89 {C K:Prop} (k:K) (h:C:=by first | (exact congrArg List.length hD.symm) | (exact eqN hD.symm) | (exact fun _ _ _ _=>rfl) | (exact Eq.refl _) | omega):Ob C K:=⟨h,k⟩
theorem o90 {C K:Prop} (k:K) (h:C:=by first | (exact hcl) | (exact congrArg List.length hcM) | (exact eqN hcM) | (exact eqP hcP) | (exact fun _ _ _ _=>rfl) | (exact hpt) | (exact Eq.refl _) | omega):Ob C K:=⟨h,k⟩
def obA:List Prop->Prop->Prop
 | [],K=>K
 | c::cs,K=>Ob c (obA cs K)
theorem Vl:∀ {C:List Prop} {K:Prop},obA C K->(∀ c∈C,c)/\K
 | [],K,h=>⟨by simp,h⟩
 | c::cs,K,h=>by
  obtain ⟨h1,h2⟩:=h;obtain ⟨h3,h4⟩:=Vl h2;refine ⟨fun x hx=>?_,h4⟩;rcases QxE.1 hx with rfl | hx
  ·exact h1
  ·exact h3 x hx
def Qcm (q:Prop):List Prop->List Prop
 | []=>[]
 | c::cs=>(q->c)::Qcm q cs
theorem Vm {q:Prop} (hq:q):∀ {C:List Prop},(∀ c∈Qcm q C,c) -> ∀ c∈C,c
 | [],_,c,hc=>by cases hc
 | x::cs,h,c,hc=>by
  rcases QxE.1 hc with rfl | hc
  ·exact h _ (QxH ..) hq
  ·exact Vm hq (fun y hy=>h y (Qxv _ hy)) c hc
structure Hi where
 wr:List Nat:=[]
 man:List Nat:=[]
 own:List (Nat×Nat):=[]
 sel:List Nat:=[]
 fz:List Nat:=[]
 fk:List Nat:=[]
 nl:List (Nat×Nat×Nat):=[]
 cut:List Nat:=[]
 nb:List (Nat×Nat×Nat×Nat):=[]
 fo:List Nat:=[]
 cu:List Nat:=[]
 bo:List Nat:=[]
 rk:List (Nat×TypeId×Nat×List Nat):=[]
 nr:List (Nat×Nat×Nat):=[]
 nz:List (Nat×Nat×EV):=[]
def Wb:List (Nat×EV)->List (Nat×EV)
 | []=>[]
 | (s,x)::l=>(s,match x with | .cnd _ y=>y | y=>y)::Wb l
def Wc:List (Nat×EV)->List Prop
 | []=>[]
 | (s,x)::l=>match x with
  | .cnd g _=>(g=true)::Wc l
  | _=>Wc l
def QK:List Operand->List Nat
 | []=>[]
 | .tmp t::l=>t::QK l
 | _::l=>QK l
def pkV (vs:List (Nat×EV)):List Nat->List (Nat×EV)
 | []=>[]
 | s::l=>(s,look .any vs s)::pkV vs l
def ZG (ops:Array Oper) (vs:List (Nat×EV)) (j:Nat) (want:Bool):Option Bool :=
 match (ops[j]?).bind (·.dst) with
 | some gs=>match look .any vs gs with
  | .v (.bool g)=>some (g == want)
  | .cnd g (.v (.bool q))=>some (g && (q == want))
  | _=>none
 | none=>none
def Qp8:EV->Option (List Prop×Bool)
 | .v (.bool g)=>some ([],g)
 | .cnd k (.v (.bool g))=>some ([k=true],g)
 | .cnd _ .any=>some ([False],false)
 | _=>none
def Qmd (vs:List (Nat×EV)) (c a b:Operand):Option (List Prop×EV) :=
 match Qp8 (Ql vs c) with
 | none=>none
 | some (C,g)=>match a with
  | .const (.bool true)=>match Qp8 (Ql vs b) with
   | some (C',q)=>some (C++Qcm (g=false) C',.b (g || q))
   | none=>none
  | a=>match b with
   | .const (.bool false)=>match Qp8 (Ql vs a) with
    | some (C',q)=>some (C++Qcm (g=true) C',.b (g && q))
    | none=>none
   | _=>none
def Qvx (d:Nat):List (Nat×Nat)->Option Nat
 | []=>none
 | p::l=>bif Qxy p.1 d then some p.2 else Qvx d l
def ownF (d T:Nat) (old:EV) (y:EV):Option RS :=
 match y with
 | .v (.slice none 0 0)=>match old with
  | .v (.slice none 0 0)=>some ⟨[],[(d,.osl (nmB d) 0)],[(nmB d,.rb [] T 0)]⟩
  | _=>some ⟨[],[(d,y)],[]⟩
 | y=>some ⟨[],[(d,y)],[]⟩
def nlOf (d:Nat):List (Nat×Nat×Nat)->Option (Nat×Nat)
 | []=>none
 | p::l=>bif Qxy p.1 d then some p.2 else nlOf d l
def nlB (T sz:Nat):EB:=bif Qxz sz 1000 then .rz 0 sz (fun _ _=>.any) T 0 else .row [] T (sz - 1000) 0
theorem Qwc (T sz:Nat):∃ s,(nlB T sz).ob=.row [] T s 0:=by
 unfold nlB
 cases Qxz sz 1000 with
 | true=>exact ⟨sz,rfl⟩
 | false=>exact ⟨sz - 1000,rfl⟩
def nlF (d T sz:Nat) (y:EV):Option RS :=
 match y with
 | .v (.slice none 0 0)=>some ⟨[],[(d,.osl (nmB d) 0)],[(nmB d,nlB T sz)]⟩
 | y=>some ⟨[],[(d,y)],[]⟩
def nmQ (r:Nat):Nat:=700000+r
def nbOf (r:Nat):List (Nat×Nat×Nat×Nat)->Option (Nat×Nat×Nat)
 | []=>none
 | p::l=>bif Qxy p.1 r then some p.2 else nbOf r l
def nzOf (d:Nat):List (Nat×Nat×EV)->Option (Nat×EV)
 | []=>none
 | p::l=>bif Qxy p.1 d then some p.2 else nzOf d l
def nzV (x e:EV):EV:=match x with
 | .v (.slice none 0 0)=>match e with
  | .lz 0 sz f=>.lz 0 sz f
  | _=>x
 | _=>x
def nzS (nz:List (Nat×Nat×EV)) (x:Operand) (v:EV):EV:=match nz with
 | []=>v
 | _::_=>match x with
  | .tmp t=>match nzOf t nz with
   | some (_,e)=>nzV v e
   | none=>v
  | _=>v
def nzL:Nat->EV->List EV->List EV
 | _,_,[]=>[]
 | 0,e,x::xs=>nzV x e::xs
 | k+1,e,x::xs=>x::nzL k e xs
def nzF (nz:List (Nat×Nat×EV)) (d:Nat) (R:Option RS):Option RS:=match nz with
 | []=>R
 | _::_=>match nzOf d nz with
  | none=>R
  | some (k,e)=>match R with
   | some ⟨C,[(d',.agg l)],hp⟩=>some ⟨C,[(d',.agg (nzL k e l))],hp⟩
   | _=>R
def rkOf (d:Nat):List (Nat×TypeId×Nat×List Nat)->Option (TypeId×Nat×List Nat)
 | []=>none
 | p::l=>bif Qxy p.1 d then some p.2 else rkOf d l
def rkL (bs:List (Nat×EB)) (T:TypeId) (sz:Nat):List Nat->RS->Option RS
 | [],R=>some R
 | q::qs,R=>bif (ob_ bs q).alive || QD q R.hp || WF q (obs R.hp) || YP q (avs R.sl) then none else rkL bs T sz qs ⟨R.C,R.sl,(q,.rz 0 sz (fun _ _=>.any) T 0)::R.hp⟩
def rkF (rk:List (Nat×TypeId×Nat×List Nat)) (bs:List (Nat×EB)) (d:Nat) (R:Option RS):Option RS :=
 match rk with
 | []=>R
 | _::_=>match rkOf d rk with
  | none=>R
  | some (T,sz,ns)=>match R with
   | some R=>rkL bs T sz ns R
   | none=>none
def nbF (nb:List (Nat×Nat×Nat×Nat)) (bs:List (Nat×EB)) (R:Option RS):Option RS :=
 match nb with
 | []=>R
 | _::_=>match R with
  | some ⟨C,[],[(r,.box cells t)]⟩=>match nbOf r nb with
   | some (i,T,sz)=>match Qdl i cells with
    | some (.v (.slice none 0 0))=>bif (ob_ bs (nmQ r)).alive || YC (nmQ r) (avL cells) || Qxy (nmQ r) r then none else some ⟨C,[],[(r,.box (cells.set i (.osl (nmQ r) 0)) t),(nmQ r,.rz 0 sz (fun _ _=>.any) T 0)]⟩
    | _=>R
   | none=>R
  | _=>R
def nlx (H:Hi) (vs:List (Nat×EV)) (d:Nat):Option (Nat×Nat):=match nlOf d H.nl with
 | some p=>some p
 | none=>match nlOf d H.nr with
  | some p=>match look .any vs d with
   | .any=>none
   | _=>some p
  | none=>none
def fzF (vs:List (Nat×EV)) (bs:List (Nat×EB)) (d:Nat) (x:Operand):Option RS :=
 match frz vs bs x with
 | some (y,R)=>some ⟨R.C,(d,y)::R.sl,R.hp⟩
 | none=>none
def fkF (vs:List (Nat×EV)) (bs:List (Nat×EB)) (d:Nat) (x:Operand):Option RS :=
 match dfE bs 12 (Ql vs x) with
 | some (C,y,F)=>bif ndB bs F then some ⟨C,[(d,y)],F⟩ else none
 | none=>none
def lkF (tab:TT) (vs:List (Nat×EV)) (bs:List (Nat×EB)) (d:Nat) (wr:Bool) (ty T:TypeId) (x:Operand):Option RS :=
 match opF tab vs bs d wr ty (.load T x) with
 | some ⟨C,[(d',v)],[]⟩=>bif Qxy d' d then (match dfE bs 12 v with
  | some (C',y,F)=>bif ndB bs F then some ⟨C++C',[(d,y)],F⟩ else none
  | none=>none) else none
 | _=>none
def skF (tab:TT) (vs:List (Nat×EV)) (bs:List (Nat×EB)) (d:Nat) (T:TypeId) (x:Operand):Option RS :=
 match tab.find T with
 | some ⟨.ar n _ _,_,_,_,_⟩=>match dfE bs 12 (Ql vs x) with
  | some (C,.pp cs 0,F)=>bif ndB bs F && Nat.ble n 1000000000 then some ⟨C,[(d,.sl cs n)],F⟩ else none
  | _=>none
 | _=>none
def gmvF (fk:List Nat) (vs:List (Nat×EV)) (bs:List (Nat×EB)) (d:Nat) (c:Bool) (o:Op):Option RS :=
 match o with
 | .move (.tmp tx)=>bif QO d fk then (match look .any vs tx with
  | .osl r m=>match dfE bs 12 (.osl r m) with
   | some (C,y,F)=>bif ndB bs F && !Qxy d tx then some ⟨C,[(d,.cnd c y),(tx,y)],F⟩ else none
   | none=>none
  | _=>none) else none
 | _=>none
def fcL {α:Type}:List EV->(List EV->α)->α
 | [],k=>k []
 | x::xs,k=>EV.fc (fun y=>fcL xs fun ys=>k (y::ys)) x
theorem Qp9 {α:Type}:∀ (l:List EV) (k:List EV->α),fcL l k=k l
 | [],k=>rfl
 | x::xs,k=>by
  unfold fcL;rw [EV.fc_eq,Qp9 xs]
def foF (R:Option RS):Option RS :=
 match R with
 | some ⟨C,[(d,.agg l)],F⟩=>fcL l fun l'=>some ⟨C,[(d,.agg l')],F⟩
 | R=>R
theorem Qwd (R:Option RS):foF R=R:=by
 unfold foF;split
 ·rw [Qp9]
 ·rfl
def QnK (tab:TT) (vs:List (Nat×EV)) (bs:List (Nat×EB)) (d:Nat) (o:Op):Option RS:=none
def updF (tab:TT) (bs:List (Nat×EB)) (T:TypeId) (m x y:EV):Option RS:=none
def Qme (vs:List (Nat×EV)) (bs:List (Nat×EB)) (o:Oper):Option (Nat×Nat×Nat×Nat×List Nat×Nat×Q7):=none
def mkfF (vs:List (Nat×EV)) (bs:List (Nat×EB)) (d:Nat) (fn:Fn) (first captured:List Operand):Option RS :=
 match fn with
 | .func f=>match first with
  | []=>match dfL (dfE bs 12) (Qgj vs captured) with
   | some (C,cs,F)=>bif shL cs && ndB bs F then some ⟨C,[(d,.fn f cs)],F⟩ else none
   | none=>none
  | _=>none
 | _=>none
section
variable (tab:TT) (H:Hi) (ops:Array Oper) (vs:List (Nat×EV)) (bs:List (Nat×EB))
def Qkq (d:Nat) (ty:TypeId) (vs:List (Nat×EV)) (o:Op):Option RS :=
 match o with
 | .pick c a b=>match Qmd vs c a b with
  | some (C,x)=>some ⟨C,[(d,x)],[]⟩
  | none=>none
 | .assign x=>match Qvx d H.own with
  | some T=>ownF d T (look .any vs d) (Ql vs x)
  | none=>match nlx H vs d with
   | some (T,sz)=>nlF d T sz (Ql vs x)
   | none=>bif QO d H.fz then fzF vs bs d x else opF tab vs bs d (QO d H.wr) ty (.assign x)
 | .move x=>bif QO d H.fk then fkF vs bs d x else bif QO d H.fz then fzF vs bs d x else opF tab vs bs d (QO d H.wr) ty (.move x)
 | .build T ps=>bif QO d H.fo then foF (opF tab vs bs d (QO d H.wr) ty (.build T ps)) else opF tab vs bs d (QO d H.wr) ty (.build T ps)
 | .load T x=>bif QO d H.fk then lkF tab vs bs d (QO d H.wr) ty T x else opF tab vs bs d (QO d H.wr) ty (.load T x)
 | .indexAddr T x y=>bif QO d H.sel then selF tab vs bs d T x (Ql vs y) else opF tab vs bs d (QO d H.wr) ty (.indexAddr T x y)
 | .slice T x lo hi mx=>bif QO d H.cut then Qp4 tab vs bs d T x lo hi mx else bif QO d H.fk && lo.isNone && hi.isNone && mx.isNone then skF tab vs bs d T x else opF tab vs bs d (QO d H.wr) ty (.slice T x lo hi mx)
 | .makeFunc fn first captured=>mkfF vs bs d fn first.toList captured.toList
 | .makeMap T r=>QnK tab vs bs d (.makeMap T r)
 | .lookup T x y ok=>QnK tab vs bs d (.lookup T x y ok)
 | .range T x=>QnK tab vs bs d (.range T x)
 | .entry x=>QnK tab vs bs d (.entry x)
 | o=>opF tab vs bs d (QO d H.wr) ty o
def QaE (o:Oper):Option RS :=
 match o.dst with
 | none=>match o.guard with
  | none=>match o.op with
   | .store T x y=>nbF H.nb bs (Qka tab bs T (Ql vs x) (nzS H.nz x (Ql vs y)))
   | .mapUpdate T m x y=>updF tab bs T (Ql vs m) (Ql vs x) (Ql vs y)
   | .call c=>Qp5 tab vs bs c
   | _=>none
  | some _=>none
 | some d=>bif (ob_ bs (nmB d)).alive || (ob_ bs (nmZ d)).alive then none else (match o.guard with
  | none=>nzF H.nz d (rkF H.rk bs d (Qkq tab H bs d o.type vs o.op))
  | some (j,want)=>match ZG ops vs j want with
   | none=>none
   | some c=>match o.op with
    | .pick p a b=>match Qmd vs p a b with
     | some (C,x)=>some ⟨Qcm (c=true) C,[(d,.cnd c x)],[]⟩
     | none=>none
    | op=>match gmvF H.fk vs bs d c op with
     | some R=>some R
     | none=>match opF tab (Wb (pkV vs (QK op.operands.toList))) bs d (QO d H.wr) o.type op with
      | some ⟨C,[(d',x)],[]⟩=>bif Qxy d' d then some ⟨Qcm (c=true) (Wc (pkV vs (QK op.operands.toList))++C),[(d,.cnd c x)],[]⟩ else none
      | _=>some ⟨[c=false],[(d,.cnd c .any)],[]⟩)
end
def Qgp (o:Oper):Option (FuncId×List Operand) :=
 match o.op with
 | .call c=>match c.callee with
  | .value (.func f)=>some (f,c.args.toList)
  | _=>none
 | _=>none
def Vn:EV->EV
 | .cnd _ y=>y
 | y=>y
def Qmf (vs:List (Nat×EV)) (o:Oper):Option (FuncId×List Operand) :=
 match o.op,o.guard with
 | .call ⟨.value (.tmp t),args,_⟩,some _=>match Vn (look .any vs t) with
  | .fn f []=>some (f,args.toList)
  | .v (.func (.func f) ⟨[]⟩ ⟨[]⟩)=>some (f,args.toList)
  | _=>none
 | _,_=>none
def Qe9 (vs:List (Nat×EV)) (o:Oper):Option (FuncId×List Operand×Option (List EV)) :=
 match Qgp o with
 | some (f,args)=>some (f,args,none)
 | none=>match Qmf vs o with
  | some (f,args)=>some (f,args,none)
  | none=>match Ql6 vs o with
   | some (f,args,ce)=>some (f,args,some ce)
   | none=>none
def ceL:Option (List EV)->List EV
 | some l=>l
 | none=>[]
def Qh3 (tab:TT) (vs:List (Nat×EV)) (o:Oper):Option (Nat×Nat) :=
 match o.op with
 | .binOp .eql T x y _=>match o.dst,o.guard with
  | some d,none=>match tab.find T with
   | some ⟨.sl _ _ _ _,_,_,_,_⟩=>match Ql vs y with
    | .v (.slice none 0 0)=>match Ql vs x with
     | .bs l=>some (d,l.length)
     | .lz n _ _=>some (d,n)
     | .sl _ n=>some (d,n)
     | _=>none
    | _=>none
   | _=>none
  | _,_=>none
 | _=>none
def QnL (bs:List (Nat×EB)) (st:ES) (kp:List Nat):List (Nat×EB)->Bool
 | []=>true
 | p::l=>((ob_ bs p.1).alive || st.free kp p.1) && QnL bs st kp l
theorem Qmg {bs:List (Nat×EB)} {st:ES} {kp:List Nat}:∀ {l:List (Nat×EB)},QnL bs st kp l=true -> ∀ p∈l,(ob_ bs p.1).alive=true\/st.free kp p.1=true
 | [],_,p,hp=>by cases hp
 | q::l,h,p,hp=>by
  simp only [QnL,QxB,Bool.or_eq_true] at h;rcases QxE.1 hp with rfl | hp
  ·exact h.1
  ·exact Qmg h.2 p hp
def Cf (P:Program) (f:FuncId) (hin:List (Nat×EB)) (a5s:List EV) (hout:List (Nat×EB)) (res:EV):Prop:=QX P f=true/\Ct P f hin a5s hout res
theorem clX {P:Program} {f:FuncId} {hin:List (Nat×EB)} {a:List EV} {hout:List (Nat×EB)} {r:EV} {G:List (Nat×EB)->List EV->List (Nat×EB)->EV->Prop} (h:Cf P f hin a hout r) (k:G hin a hout r):∃ hin a hout r,Cf P f hin a hout r/\G hin a hout r:=⟨_,_,_,_,h,k⟩
def YF:Option Nat->Nat->Bool
 | none,_=>true
 | some d,n=>Qxz d n
def Qb3 (bo:List Nat) (vs:List (Nat×EV)) (bs:List (Nat×EB)) (dst:Option Nat) (args:List Operand) (ce:List EV) (hin:List (Nat×EB)) (a5s:List EV) (hout:List (Nat×EB)) (res:EV):Option RS :=
 match dst with
 | some d=>bif QO d bo then (match hin with
  | []=>match hout with
   | []=>match Qp2 vs bs args ce a5s res with
    | some C=>some ⟨C,[(d,res)],[]⟩
    | none=>none
   | _::_=>Qb1 vs bs (some d) args ce hin a5s hout res
  | _::_=>none) else Qb1 vs bs (some d) args ce hin a5s hout res
 | none=>Qb1 vs bs none args ce hin a5s hout res
def Qfa (bo:Bool) (vs0:List (Nat×EV)) (bs:List (Nat×EB)) (args:List Operand) (a5s:List EV) (res:EV):Option (List Prop) :=
 bif bo then Qp2 vs0 bs args [] a5s res else (match JD [] (Qgj vs0 args) a5s with
  | some (C,[])=>bif res.av.inH [] && Vf [] (avL a5s) && res.av.inD [] then some C else none
  | _=>none)
section
variable (P:Program) (kp:List Nat) (n:Nat) (tab:TT) (H:Hi) (ops:Array Oper)
def goR (sl:List (Nat×EV)) (hp:List (Nat×EB)) (K:ES->Prop):Option RS->Prop
 | some ⟨C,rs,rh⟩=>bif QnL hp ⟨sl,hp⟩ kp rh then obA C (QeK (fun s=>QeK (fun h=>K ⟨s,h⟩) hp rh) sl rs) else False
 | none=>False
def QaF:List Oper->ES->(ES->Prop)->Prop
 | [],st,K=>K st
 | o::os,⟨sl,hp⟩,K=>bif YF o.dst n then (match Qe9 sl o with
  | some (f,args,ce)=>match o.guard with
   | none=>∃ hin a5s hout res,Cf P f hin a5s hout res/\goR kp sl hp (fun st'=>QaF os st' K) (Qb3 H.bo sl hp o.dst args (ceL ce) hin a5s hout res)
   | some (j,want)=>match ce,o.dst,ZG ops sl j want with
    | none,some d,some c=>∃ a5s res,(match Qfa (QO d H.bo) (Wb (pkV sl (QK args))) hp args a5s res with
     | some C=>((c=true->Cf P f [] a5s [] res)/\obA (Qcm (c=true) (Wc (pkV sl (QK o.op.operands.toList))++C)) (QaF os ⟨(d,.cnd c res)::sl,hp⟩ K))
     | none=>False)
    | _,_,_=>False
  | none=>match Qme sl hp o with
   | some (d,r,q,since,s,last,es)=>Ob (since=es.length/\last=es.length) ((∀ i:Nat,i < es.length->¬ i∈s->QaF os ⟨(d,.tup [.b true,.any,.any])::sl,(r,.it q since (i::s) last)::hp⟩ K)/\((∀ i:Nat,i < es.length->i∈s)->QaF os ⟨(d,.tup [.b false])::sl,hp⟩ K))
   | none=>match Qh3 tab sl o with
   | some (d,m)=>∀ g:Bool,(g=true->m=0)->QaF os ⟨(d,.b g)::sl,hp⟩ K
   | none=>match o.dst with
    | some d=>bif QO d H.man then (∃ st':ES,(∀ E,Qd P E kp n ops o (ES.as ⟨sl,hp⟩) st'.as)/\QaF os st' K) else goR kp sl hp (fun st'=>QaF os st' K) (QaE tab H ops sl hp o)
    | none=>goR kp sl hp (fun st'=>QaF os st' K) (QaE tab H ops sl hp o)) else False
end
section
variable {P:Program} {E:Env} {kp:List Nat} {n:Nat} {ops:Array Oper} {tab:TT} {H:Hi} {st:ES}
theorem Sub.full (st:ES):Sub st.slots st.heap st:=⟨fun _=>.inr rfl,fun _=>.inr rfl⟩
theorem QdL {l:List Nat} (hC:∀ c∈Wc (pkV st.slots l),c) (t:Nat) :
  Gv (look AV.any st.as.slots t) (look EV.any (Wb (pkV st.slots l)++st.slots) t).av/\Gv (look EV.any (Wb (pkV st.slots l)++st.slots) t).av (look AV.any st.as.slots t):=by
 have e0:look AV.any st.as.slots t=(look EV.any st.slots t).av:=Q8 _ _;rw [e0];have key:∀ (m:List (Nat×EV)),(∀ c∈Wc m,c)->(∀ s x,(s,x)∈m->x=look .any st.slots s) ->
   Gv (look EV.any st.slots t).av (look EV.any (Wb m++st.slots) t).av/\Gv (look EV.any (Wb m++st.slots) t).av (look EV.any st.slots t).av:=by
  intro m
  induction m with
  | nil=>intro _ _;exact ⟨Gv.r,Gv.r⟩
  | cons p m ih =>
   obtain ⟨s,x⟩:=p;intro hC hm
   have hC':∀ c∈Wc m,c:=fun c hc=>hC c (by
    simp only [Wc];split
    ·exact Qxv _ hc
    ·exact hc)
   simp only [Wb,List.cons_append,Qb];split
   ·next e =>
    subst e;have hx:=hm s x (by simp);rw [<- hx]
    cases x with
    | cnd g y =>
     have hg:g=true:=hC (g=true) (by simp [Wc]);subst hg;refine ⟨Gv.c rfl Gv.r,fun w Pub φ u k=>?_⟩;unfold EV.av RA;exact ⟨fun _=>k,fun h=>by cases h⟩
    | _=>exact ⟨Gv.r,Gv.r⟩
   ·exact ih hC' fun s' x' h'=>hm s' x' (Qxv _ h')
 refine key _ hC fun s x hm=>?_
 have:∀ (l:List Nat),(s,x)∈pkV st.slots l->x=look .any st.slots s:=by
  intro l
  induction l with
  | nil=>intro h;cases h
  | cons a l ih =>
   intro h;simp only [pkV,QxE] at h;rcases h with h | h
   ·cases h;rfl
   ·exact ih h
 exact this l hm
theorem Qh4 {sl sl':List (Nat×AV)} {h:List (Nat×OB)} (hs:∀ t,Gv (look AV.any sl t) (look AV.any sl' t)):Wk E kp n ⟨sl,h⟩ ⟨sl',h⟩:=by
 rintro a w ⟨φ,Pub,I,h0,hn,hsl⟩;exact ⟨φ,Pub,I,h0,hn,fun s=>hs s _ _ _ _ (hsl s)⟩
theorem Qfb {l:List Nat} {bs:List (Nat×EB)} (hb:∀ r,ob_ bs r=.dead\/st.eb r=ob_ bs r):Sub (Wb (pkV st.slots l)) bs ⟨Wb (pkV st.slots l)++st.slots,st.heap⟩:=by
 refine ⟨fun x=>?_,hb⟩
 cases x with
 | tmp t =>
  show look EV.any (Wb (pkV st.slots l)) t=.any\/look EV.any (Wb (pkV st.slots l)++st.slots) t=look EV.any (Wb (pkV st.slots l)) t;rw [Qv]
  cases hk:QD t (Wb (pkV st.slots l)) with
  | true=>rw [if_pos rfl];exact .inr rfl
  | false =>
   refine .inl ?_
   have:∀ (m:List (Nat×EV)),QD t m=false->look EV.any m t=.any:=by
    intro m
    induction m with
    | nil=>intro _;rfl
    | cons p m ih =>
     intro h;simp only [QD,Qxw] at h;rw [Qb,if_neg (fun e=>by rw [e] at h;simp at h)];exact ih h.2
   exact this _ hk
 | _=>exact .inr rfl
theorem XO {o:Op} {d j:Nat} {want c:Bool} {x:EV} {ty:TypeId} {ps:String} {af:Array Edge} (hg:ZG ops st.slots j want=some c) (hd:Qxz d n=true)
  (h:c=true->Qd P E kp n ops ⟨some d,o,ty,ps,af,none⟩ st.as (st.as.put d x.av)):Qd P E kp n ops ⟨some d,o,ty,ps,af,some (j,want)⟩ st.as (st.as.put d (EV.cnd c x).av):=by
 unfold ZG at hg;split at hg
 ·next gs hj =>
  split at hg
  ·next g hv =>
   cases hg;refine QsJ hj ?_ hd h;rw [XJ];show (look EV.any st.slots gs).av=_;rw [hv];rfl
  ·next g q hv =>
   cases hg;refine Qo9 hj ?_ hd h;rw [XJ];show (look EV.any st.slots gs).av=_;rw [hv];rfl
  ·cases hg
 ·cases hg
theorem Qcv {x:EV} {C:List Prop} {g:Bool} (h:Qp8 x=some (C,g)) (hC:∀ c∈C,c):Gv x.av (.p (.v (.bool g))):=by
 unfold Qp8 at h;split at h
 ·cases h;exact Gv.r
 ·next k q=>cases h;exact Gv.c (hC (k=true) (by simp)) Gv.r
 ·cases h;exact (hC False (by simp)).elim
 ·cases h
theorem JU {vs:List (Nat×EV)} {bs:List (Nat×EB)} {j:Nat} {want c:Bool} (S:Sub vs bs st) (h:ZG ops vs j want=some c):ZG ops st.slots j want=some c:=by
 unfold ZG at h ⊢;split at h
 ·next gs hj =>
  rcases S.e (.tmp gs) with k | k
  ·have k:look EV.any vs gs=.any:=k;rw [k] at h;cases h
  ·have k:look EV.any st.slots gs=look EV.any vs gs:=k;rw [<- k] at h;exact h
 ·cases h
theorem QbB {vs ws:List (Nat×EV)}:∀ {l:List Nat},(∀ s∈l,look EV.any vs s=look EV.any ws s)->pkV vs l=pkV ws l
 | [],_=>rfl
 | s::l,h=>by
  unfold pkV;rw [h s (by simp),QbB (l:=l) (fun x hx=>h x (Qxv _ hx))]
theorem Qh5 {c a b:Operand} {C:List Prop} {x:EV} {d:Nat} {ty:TypeId} {ps:String} {af:Array Edge} {vs:List (Nat×EV)} {bs:List (Nat×EB)} (S:Sub vs bs st) (h:Qmd vs c a b=some (C,x)) (hC:∀ c∈C,c) (hd:Qxz d n=true) :
  Qd P E kp n ops ⟨some d,.pick c a b,ty,ps,af,none⟩ st.as (st.as.put d x.av):=by
 unfold Qmd at h;split at h
 ·cases h
 ·next C0 g hc =>
  split at h
  ·split at h
   ·next C1 q hq =>
    cases h;have hC0:∀ c∈C0,c:=fun c hc=>hC c (QxC _ hc);have h1:g=false -> ∀ c∈C1,c:=fun hg=>Vm hg (fun c hc=>hC c (QxA _ hc));exact S_or ((S.v c).trans (Qcv hc hC0)) (by rw [XJ];exact Gv.r) (fun hg=>(S.v b).trans (Qcv hq (h1 hg))) hd
   ·cases h
  ·split at h
   ·split at h
    ·next C1 q hq =>
     cases h;have hC0:∀ c∈C0,c:=fun c hc=>hC c (QxC _ hc);have h1:g=true -> ∀ c∈C1,c:=fun hg=>Vm hg (fun c hc=>hC c (QxA _ hc));exact S_and ((S.v c).trans (Qcv hc hC0)) (by rw [XJ];exact Gv.r) (fun hg=>(S.v a).trans (Qcv hq (h1 hg))) hd
    ·cases h
   ·cases h
theorem Qqa {d:Nat} {ty:TypeId} {o:Op} {x:Operand} {R:RS} {ps:String} {af:Array Edge} {vs:List (Nat×EV)} {bs:List (Nat×EB)} (ho:o=.move x\/o=.assign x) (S:Sub vs bs st) (h:fzF vs bs d x=some R) (hC:∀ c∈R.C,c) (hd:Qxz d n=true):Qd P E kp n ops ⟨some d,o,ty,ps,af,none⟩ st.as (R.app st).as:=by
 unfold fzF at h;split at h
 ·next y R' hR =>
  cases h;obtain ⟨k1,k2,_⟩:=Qdy (E:=E) (kp:=kp) (n:=n) S hR hC;exact (Qnh ho hd k2).pre k1
 ·cases h
theorem Qwe {d:Nat} {ty:TypeId} {x:Operand} {R:RS} {ps:String} {af:Array Edge} {vs:List (Nat×EV)} {bs:List (Nat×EB)} (S:Sub vs bs st) (h:fkF vs bs d x=some R) (hC:∀ c∈R.C,c) (hd:Qxz d n=true):Qd P E kp n ops ⟨some d,.move x,ty,ps,af,none⟩ st.as (R.app st).as:=by
 unfold fkF at h;split at h
 ·next C y F hdf =>
  cases hb:ndB bs F with
  | false=>rw [hb] at h;cases h
  | true =>
   rw [hb] at h;simp only [cond_true] at h;cases h;refine Qd.val rfl fun a w ⟨φ,Pub,I,h0,hn,hs⟩=>?_;obtain ⟨f1,Pub',I',H',hR⟩:=VV S 12 _ _ _ _ [] _ _ hdf hC (fun r e hm=>by cases hm) (by rw [Qxt];exact hb) I (S.v x _ _ _ _ (Za (h:=st.as.heap) hs x));rw [Qxt] at I';exact ⟨a.eval x,w,rfl,Sat.put I' h0 hn (fun s=>QF H' _ _ (fun _ _=>rfl) (hs s)) hd hR⟩
 ·cases h
theorem Qwf {d:Nat} {ty T:TypeId} {x:Operand} {R:RS} {ps:String} {af:Array Edge} {vs:List (Nat×EV)} {bs:List (Nat×EB)} (hP:tab.ok P) (S:Sub vs bs st) (h:skF tab vs bs d T x=some R) (hC:∀ c∈R.C,c) (hd:Qxz d n=true):Qd P E kp n ops ⟨some d,.slice T x none none none,ty,ps,af,none⟩ st.as (R.app st).as:=by
 unfold skF at h;split at h
 ·next m es e _ _ _ _ hT =>
  obtain ⟨_,hu,hs⟩:=(TT.find_ok hP hT).ar _ _ _ rfl;split at h
  ·next C cs F hdf =>
   cases hb:ndB bs F && Nat.ble m 1000000000 with
   | false=>rw [hb] at h;cases h
   | true =>
    rw [hb] at h;simp only [cond_true] at h;cases h;rw [QxB] at hb;have hm:=Qxp hb.2;refine Qd.val rfl fun a w ⟨φ,Pub,I,h0,hn,hs'⟩=>?_;obtain ⟨f1,Pub',I',H',hR⟩:=VV S 12 _ _ _ _ [] _ _ hdf hC (fun r e hm=>by cases hm) (by rw [Qxt];exact hb.1) I (S.v x _ _ _ _ (Za (h:=st.as.heap) hs' x));rw [Qxt] at I';unfold EV.av RA RP at hR;obtain ⟨b,o,e1,hc⟩:=hR;refine ⟨.slice (some ⟨b,o,none⟩) m m,w,?_,Sat.put I' h0 hn (fun s=>QF H' _ _ (fun _ _=>rfl) (hs' s)) hd (by unfold EV.av RA RP;exact ⟨_,_,rfl,Nat.le_refl _,by unfold maxLen;omega,(fun h=>by cases h),.inr ⟨b,o,rfl,hc⟩⟩)⟩
    have hrun:(Instr.sliceAt T (a.eval x) none none none).run P w=.ok (.slice (some ⟨b,o,none⟩) m m) w:=by
     rw [e1];unfold Instr.sliceAt;rw [Sem.run_bind,run_underlying hu w];simp only [Result.andThen_ok]
     cases m with
     | zero=>simp [Instr.sureAddr,Instr.sliceBounds,Qp hs]
     | succ m=>simp [Instr.sureAddr,Instr.sliceBounds,Qp hs,Addr.add_mid]
    simp only [execOp,Option.map_none];rw [Sem.run_bind,hrun];rfl
  ·cases h
 ·cases h
theorem QtQ {d:Nat} {ty:TypeId} {fn:Fn} {first captured:Array Operand} {R:RS} {ps:String} {af:Array Edge} {vs:List (Nat×EV)} {bs:List (Nat×EB)} (S:Sub vs bs st) (h:mkfF vs bs d fn first.toList captured.toList=some R) (hC:∀ c∈R.C,c) (hd:Qxz d n=true):Qd P E kp n ops ⟨some d,.makeFunc fn first captured,ty,ps,af,none⟩ st.as (R.app st).as:=by
 unfold mkfF at h;split at h
 ·next f =>
  split at h
  ·next hf =>
   split at h
   ·next C cs F hdf =>
    cases hb:shL cs && ndB bs F with
    | false=>rw [hb] at h;cases h
    | true =>
     rw [hb] at h;simp only [cond_true] at h;cases h;rw [QxB] at hb;refine Qd.val rfl fun a w ⟨φ,Pub,I,h0,hn,hs⟩=>?_
     have hx:∀ args:List Operand,RAs w Pub φ (avL (Qgj vs args)) (args.map a.eval):=by
      intro args
      induction args with
      | nil=>simp only [Qgj,avL,List.map_nil];unfold RAs;rfl
      | cons x xs ih =>
       simp only [Qgj,avL,List.map_cons];unfold RAs;exact ⟨_,_,rfl,S.v x _ _ _ _ (Za (h:=st.as.heap) hs x),ih⟩
     obtain ⟨f1,Pub',I',H',hR⟩:=Qgm (VV S 12) _ _ _ _ [] _ _ hdf hC (fun r e hm=>by cases hm) (by rw [Qxt];exact hb.2) I (hx captured.toList);rw [Qxt] at I';have e1:first = #[]:=by simpa using hf
     refine ⟨.func (.func f) #[] (captured.toList.map a.eval).toArray,w,?_,?_⟩
     ·subst e1;have e2:captured.map a.eval=(captured.toList.map a.eval).toArray:=by rw [<- List.map_toArray,Array.toArray_toList]
      simp [execOp,Instr.makeFunc,e2]
     ·exact Sat.put I' h0 hn (fun s=>QF H' _ _ (fun _ _=>rfl) (hs s)) hd (by
       show RA w Pub' φ (EV.fn f cs).av _;unfold EV.av RA RP
       exact ⟨_,rfl,(ZT cs _ hb.1).1 hR⟩)
   ·cases h
  ·cases h
 ·cases h
theorem Qcw {d:Nat} {ty:TypeId} {o:Op} {R:RS} {ps:String} {af:Array Edge} {vs:List (Nat×EV)} {bs:List (Nat×EB)} (S:Sub vs bs st) (hP:tab.ok P) (h:QnK tab vs bs d o=some R) (hC:∀ c∈R.C,c) (hf:∀ p∈R.hp,(ob_ bs p.1).alive=true\/st.free kp p.1=true)
  (hnd:(ob_ bs (nmB d)).alive=false) (hd:Qxz d n=true):Qd P E kp n ops ⟨some d,o,ty,ps,af,none⟩ st.as (R.app st).as:=by
 unfold QnK at h;cases h
theorem QtR {ty:TypeId} {T:TypeId} {m x y:Operand} {R:RS} {ps:String} {af:Array Edge} {vs:List (Nat×EV)} {bs:List (Nat×EB)} (S:Sub vs bs st) (hP:tab.ok P) (h:updF tab bs T (Ql vs m) (Ql vs x) (Ql vs y)=some R) :
  Qd P E kp n ops ⟨none,.mapUpdate T m x y,ty,ps,af,none⟩ st.as (R.app st).as:=by
 unfold updF at h;cases h
theorem Qwg {d:Nat} {wr:Bool} {ty T:TypeId} {x:Operand} {R:RS} {ps:String} {af:Array Edge} {vs:List (Nat×EV)} {bs:List (Nat×EB)} (hP:tab.ok P) (S:Sub vs bs st) (h:lkF tab vs bs d wr ty T x=some R) (hC:∀ c∈R.C,c) (hf:∀ p∈R.hp,(ob_ bs p.1).alive=true\/st.free kp p.1=true)
  (hnd:(ob_ bs (nmB d)).alive=false) (hnz:(ob_ bs (nmZ d)).alive=false) (hd:Qxz d n=true):Qd P E kp n ops ⟨some d,.load T x,ty,ps,af,none⟩ st.as (R.app st).as:=by
 unfold lkF at h;split at h
 ·next C d' v he =>
  cases hb:Qxy d' d with
  | false=>rw [hb] at h;cases h
  | true =>
   have:=Nat.eq_of_beq_eq_true hb;subst this;rw [hb] at h;simp only [cond_true] at h;split at h
   ·next C' y F hdf =>
    cases hn:ndB bs F with
    | false=>rw [hn] at h;cases h
    | true =>
     rw [hn] at h;cases h;have k1:=Vj (P:=P) (E:=E) (kp:=kp) (n:=n) (ops:=ops) (ty:=ty) (ps:=ps) (af:=af) hP S he (fun c hc=>hC c (QxC _ hc)) (fun p hp=>by cases hp) hnd hnz hd;refine k1.wk ?_;rintro a w ⟨φ,Pub,I,h0,hn0,hs⟩
     have hv:RA w Pub φ v.av (a.tmps.getD d' undef):=by
      have:=hs d'
      rw [show look AV.any ((RS.mk C [(d',v)] []).app st).as.slots d'=v.av from by
       show look AV.any ((d',v.av)::st.as.slots) d'=_
       rw [Qb,if_pos rfl]] at this
      exact this
     obtain ⟨f1,Pub',I',H',hR⟩:=VV S 12 _ _ _ _ [] _ _ hdf (fun c hc=>hC c (QxA _ hc)) (fun r e hm=>by cases hm) (by rw [Qxt];exact hn) I hv;rw [Qxt] at I';refine ⟨φ,Pub',I',h0,hn0,fun s=>?_⟩;show RA w Pub' φ (look AV.any ((d',y.av)::st.as.slots) s) _;rw [Qb];split
     ·next e=>subst e;exact hR
     ·next e =>
      have h2:=hs s
      rw [show look AV.any ((RS.mk C [(d',v)] []).app st).as.slots s=look AV.any st.as.slots s from by
       show look AV.any ((d',v.av)::st.as.slots) s=_
       rw [Qb,if_neg e]] at h2
      exact QF H' _ _ (fun _ _=>rfl) h2
   ·cases h
 ·cases h
theorem QnM {d:Nat} {ty:TypeId} {o:Op} {R:RS} {ps:String} {af:Array Edge} {vs:List (Nat×EV)} {bs:List (Nat×EB)} (S:Sub vs bs st) (hP:tab.ok P) (h:Qkq tab H bs d ty vs o=some R) (hC:∀ c∈R.C,c) (hf:∀ p∈R.hp,(ob_ bs p.1).alive=true\/st.free kp p.1=true)
  (hnd:(ob_ bs (nmB d)).alive=false) (hnz:(ob_ bs (nmZ d)).alive=false) (hd:Qxz d n=true):Qd P E kp n ops ⟨some d,o,ty,ps,af,none⟩ st.as (R.app st).as:=by
 unfold Qkq at h;split at h
 ·split at h
  ·next C x hp=>cases h;exact Qh5 S hp hC hd
  ·cases h
 ·next x =>
  split at h
  ·next T _ =>
   have hx:=S.v x;have mv:Qd P E kp n ops ⟨some d,.assign x,ty,ps,af,none⟩ st.as (st.as.put d (Ql vs x).av):=Qnh (.inr rfl) hd hx;unfold ownF at h;split at h
   ·next y hy =>
    split at h
    ·cases h;rw [hy] at mv
     have hfr:st.free kp (nmB d)=true:=by
      rcases hf _ (QxD.2 rfl) with k | k
      ·rw [hnd] at k;cases k
      ·exact k
     rw [<- Wz] at hfr;refine (mv.wk (Qpl d (nmB d) T 1 (by show Gv (look AV.any ((d,_)::st.as.slots) d) _;rw [Qb,if_pos rfl];exact Gv.r) ?_)).wk ?_
     ·obtain ⟨f1,f2,f3,f4⟩:=Qu hfr
      exact Jf f1 f2 (by
       show YP (nmB d) ((d,_)::st.as.slots)=false
       simp only [YP,f3,QxF];rfl) f4
     ·intro a w hs;refine Sat.congr (st:=⟨(d,.osl (nmB d) 0)::(st.as.put d (EV.v (Value.slice none 0 0)).av).slots,(nmB d,.row [] T 1 0)::(st.as.put d (EV.v (Value.slice none 0 0)).av).heap⟩) (fun s=>?_) (fun r=>rfl) hs;show look AV.any ((d,AV.osl (nmB d) 0)::st.as.slots) s=look AV.any ((d,AV.osl (nmB d) 0)::(d,(EV.v (Value.slice none 0 0)).av)::st.as.slots) s;simp only [Qb];split
      ·rfl
      ·rfl
    ·cases h;exact mv
   ·cases h;exact mv
  ·split at h
   ·next T sz _ =>
    have hx:=S.v x;have mv:Qd P E kp n ops ⟨some d,.assign x,ty,ps,af,none⟩ st.as (st.as.put d (Ql vs x).av):=Qnh (.inr rfl) hd hx;unfold nlF at h;split at h
    ·next hy =>
     cases h;rw [hy] at mv
     have hfr:st.free kp (nmB d)=true:=by
      rcases hf _ (QxD.2 rfl) with k | k
      ·rw [hnd] at k;cases k
      ·exact k
     rw [<- Wz] at hfr;obtain ⟨s',hs'⟩:=Qwc T sz;refine (mv.wk (Qpl d (nmB d) T s' (by show Gv (look AV.any ((d,_)::st.as.slots) d) _;rw [Qb,if_pos rfl];exact Gv.r) ?_)).wk ?_
     ·obtain ⟨f1,f2,f3,f4⟩:=Qu hfr
      exact Jf f1 f2 (by
       show YP (nmB d) ((d,_)::st.as.slots)=false
       simp only [YP,f3,QxF];rfl) f4
     ·intro a w hs;refine Sat.congr (st:=⟨(d,.osl (nmB d) 0)::(st.as.put d (EV.v (Value.slice none 0 0)).av).slots,(nmB d,.row [] T s' 0)::(st.as.put d (EV.v (Value.slice none 0 0)).av).heap⟩) (fun s=>?_) (fun r=>?_) hs
      rotate_left
      ·show look OB.dead ((nmB d,(nlB T sz).ob)::st.as.heap) r=look OB.dead ((nmB d,OB.row [] T s' 0)::st.as.heap) r;rw [hs']
      show look AV.any ((d,AV.osl (nmB d) 0)::st.as.slots) s=look AV.any ((d,AV.osl (nmB d) 0)::(d,(EV.v (Value.slice none 0 0)).av)::st.as.slots) s;simp only [Qb];split
      ·rfl
      ·rfl
    ·cases h;exact mv
   ·cases hm:QO d H.fz with
    | true=>rw [hm] at h;exact Qqa (.inr rfl) S h hC hd
    | false=>rw [hm] at h;simp only [cond_false] at h;exact Vj hP S h hC hf hnd hnz hd
 ·next x =>
  cases hk:QO d H.fk with
  | true=>rw [hk] at h;exact Qwe S h hC hd
  | false =>
   rw [hk] at h;simp only [cond_false] at h
   cases hm:QO d H.fz with
   | true=>rw [hm] at h;exact Qqa (.inl rfl) S h hC hd
   | false=>rw [hm] at h;simp only [cond_false] at h;exact Vj hP S h hC hf hnd hnz hd
 ·next T ps' =>
  rw [Qwd] at h
  have h:opF tab vs bs d (QO d H.wr) ty (.build T ps')=some R:=by
   cases hm:QO d H.fo with
   | true=>rw [hm] at h;exact h
   | false=>rw [hm] at h;exact h
  exact Vj hP S h hC hf hnd hnz hd
 ·next T x =>
  cases hm:QO d H.fk with
  | true=>rw [hm] at h;exact Qwg hP S h hC hf hnd hnz hd
  | false=>rw [hm] at h;simp only [cond_false] at h;exact Vj hP S h hC hf hnd hnz hd
 ·next T x y =>
  cases hm:QO d H.sel with
  | true=>rw [hm] at h;exact QtP hP S h hC hd
  | false=>rw [hm] at h;simp only [cond_false] at h;exact Vj hP S h hC hf hnd hnz hd
 ·next T x lo hi mx =>
  cases hm:QO d H.cut with
  | true=>rw [hm] at h;exact Qp6 hP S h hC hd
  | false =>
   rw [hm] at h;simp only [cond_false] at h
   cases hk:QO d H.fk && lo.isNone && hi.isNone && mx.isNone with
   | true =>
    rw [hk] at h;simp only [cond_true] at h;simp only [QxB,Option.isNone_iff_eq_none] at hk;obtain ⟨⟨⟨_,e1⟩,e2⟩,e3⟩:=hk;subst e1 e2 e3;exact Qwf hP S h hC hd
   | false=>rw [hk] at h;simp only [cond_false] at h;exact Vj hP S h hC hf hnd hnz hd
 ·exact QtQ S h hC hd
 ·exact Qcw S hP h hC hf hnd hd
 ·exact Qcw S hP h hC hf hnd hd
 ·exact Qcw S hP h hC hf hnd hd
 ·exact Qcw S hP h hC hf hnd hd
 ·exact Vj hP S h hC hf hnd hnz hd
theorem QtS {fk:List Nat} {d j:Nat} {want c:Bool} {ty:TypeId} {o:Op} {R:RS} {ps:String} {af:Array Edge} {vs:List (Nat×EV)} {bs:List (Nat×EB)} (S:Sub vs bs st) (h:gmvF fk vs bs d c o=some R) (hC:∀ c∈R.C,c) (hg:ZG ops st.slots j want=some c) (hd:Qxz d n=true) :
  Qd P E kp n ops ⟨some d,o,ty,ps,af,some (j,want)⟩ st.as (R.app st).as:=by
 unfold gmvF at h;split at h
 ·next tx =>
  cases hm:QO d fk with
  | false=>rw [hm] at h;cases h
  | true =>
   rw [hm] at h;simp only [cond_true] at h;split at h
   ·next r m hl =>
    split at h
    ·next C y F hdf =>
     cases hb:ndB bs F && !Qxy d tx with
     | false=>rw [hb] at h;cases h
     | true =>
      rw [hb] at h;cases h;rw [QxB] at hb
      have hls:look EV.any st.slots tx=.osl r m:=by
       rcases S.e (.tmp tx) with k | k
       ·have k:look EV.any vs tx=.any:=k;rw [hl] at k;cases k
       ·have k:look EV.any st.slots tx=look EV.any vs tx:=k;rw [k,hl]
      have w1:Wk E kp n st.as (ES.as ⟨(tx,y)::st.slots,F++st.heap⟩):=by
       rintro a w ⟨φ,Pub,I,h0,hn0,hs⟩
       have hv:RA w Pub φ (EV.osl r m).av (a.tmps.getD tx undef):=by
        have:=hs tx;rw [show look AV.any st.as.slots tx=(look EV.any st.slots tx).av from Q8 _ _,hls] at this;exact this
       obtain ⟨f1,Pub',I',H',hR⟩:=VV S 12 _ _ _ _ [] _ _ hdf hC (fun r e hm=>by cases hm) (by rw [Qxt];exact hb.1) I hv;rw [Qxt] at I';refine ⟨φ,Pub',I',h0,hn0,fun s=>?_⟩;show RA w Pub' φ (look AV.any ((tx,y.av)::st.as.slots) s) _;rw [Qb];split
       ·next e=>subst e;exact hR
       ·exact QF H' _ _ (fun _ _=>rfl) (hs s)
      have hg1:ZG ops ((tx,y)::st.slots) j want=some c:=by
       unfold ZG at hg ⊢;split at hg
       ·next gs hj =>
        simp only [Qb];by_cases e:tx=gs
        ·subst e;rw [hls] at hg;cases hg
        ·rw [if_neg e];exact hg
       ·cases hg
      have k1:Qd P E kp n ops ⟨some d,.move (.tmp tx),ty,ps,af,none⟩ (ES.as ⟨(tx,y)::st.slots,F++st.heap⟩) ((ES.as ⟨(tx,y)::st.slots,F++st.heap⟩).put d y.av) :=
       Qnh (.inl rfl) hd (by
        rw [XJ];show Gv (look EV.any ((tx,y)::st.slots) tx).av y.av
        rw [Qb,if_pos rfl];exact Gv.r)
      exact (XO (st:=⟨(tx,y)::st.slots,F++st.heap⟩) hg1 hd fun _=>k1).pre w1
    ·cases h
   ·cases h
 ·cases h
theorem Qh6:∀ (i:Nat) (l:List EV) (x:EV),Qdl i l=some x->(avL l)[i]? = some x.av
 | 0,[],x,h=>by cases h
 | 0,y::l,x,h=>by cases h;rfl
 | i+1,[],x,h=>by cases h
 | i+1,y::l,x,h=>Qh6 i l x h
theorem Qmh:∀ (l:List EV) (i:Nat) (x:EV),avL (l.set i x)=(avL l).set i x.av
 | [],_,_=>rfl
 | y::l,0,x=>rfl
 | y::l,i+1,x=>by
  show y.av::avL (l.set i x)=y.av::(avL l).set i x.av;rw [Qmh l i x]
theorem Qwh {o:Oper} {nb:List (Nat×Nat×Nat×Nat)} {bs:List (Nat×EB)} {R0:Option RS} {R:RS} (h:nbF nb bs R0=some R) (hC:∀ c∈R.C,c) (hf:∀ p∈R.hp,(ob_ bs p.1).alive=true\/st.free kp p.1=true)
  (k:∀ R1,R0=some R1->(∀ c∈R1.C,c)->Qd P E kp n ops o st.as (R1.app st).as):Qd P E kp n ops o st.as (R.app st).as:=by
 unfold nbF at h;split at h
 ·exact k R h hC
 ·split at h
  ·next C r cells t =>
   split at h
   ·next i T sz _ =>
    split at h
    ·next hn =>
     cases hq:(ob_ bs (nmQ r)).alive || YC (nmQ r) (avL cells) || Qxy (nmQ r) r with
     | true=>rw [hq] at h;cases h
     | false =>
      rw [hq] at h;cases h;simp only [Qxw] at hq
      have hne:nmQ r≠r:=fun e=>by
       have:Qxy (nmQ r) r=true:=by rw [e];simp
       rw [this] at hq;exact absurd hq.2 (by decide)
      have hfr:st.free kp (nmQ r)=true:=by
       rcases hf (nmQ r,.rz 0 sz (fun _ _=>.any) T 0) (Qxv _ (QxD.2 rfl)) with q | q
       ·rw [hq.1.1] at q;cases q
       ·exact q
      rw [<- Wz] at hfr;obtain ⟨f1,f2,f3,f4⟩:=Qu hfr;have k1:=k _ rfl hC
      have hl:((RS.mk C [] [(r,EB.box cells t)]).app st).as.ob r=.box (avL cells) t:=by
       show look OB.dead ((r,_)::st.as.heap) r=_;rw [Qb,if_pos rfl];rfl
      refine (k1.wk (Qtn (t:=T) (sz:=sz) r (nmQ r) i hl (Qh6 _ _ _ hn) Gv.r (Jf ?_ ?_ f3 f4) hne)).wk ?_
      ·show (look OB.dead ((r,_)::st.as.heap) (nmQ r)).alive=false;rw [Qb,if_neg (Ne.symm hne)];exact f1
      ·show WF (nmQ r) ((r,OB.box (avL cells) t)::st.as.heap)=false;simp only [WF,Qxw];exact ⟨hq.1.2,f2⟩
      ·intro a w hs;refine Sat.congr (st:=⟨st.as.slots,(r,OB.box ((avL cells).set i (.osl (nmQ r) 0)) t)::(nmQ r,OB.row [] T sz 0)::(r,OB.box (avL cells) t)::st.as.heap⟩) (fun s=>rfl) (fun q=>?_) hs;show look OB.dead ((r,OB.box (avL (cells.set i (.osl (nmQ r) 0))) t)::(nmQ r,OB.row [] T sz 0)::st.as.heap) q=look OB.dead ((r,OB.box ((avL cells).set i (.osl (nmQ r) 0)) t)::(nmQ r,OB.row [] T sz 0)::(r,OB.box (avL cells) t)::st.as.heap) q;rw [Qmh];simp only [Qb];split
       ·rfl
       ·split
        ·rfl
        ·rfl
    ·exact k R h hC
   ·exact k R h hC
  ·exact k R h hC
theorem Qqb {bs:List (Nat×EB)} {T:TypeId} {sz:Nat} {o:Oper}:∀ (qs:List Nat) {R R':RS},rkL bs T sz qs R=some R'->(∀ p∈R'.hp,(ob_ bs p.1).alive=true\/st.free kp p.1=true) ->
  R'.C=R.C/\(∀ p∈R.hp,p∈R'.hp)/\(Qd P E kp n ops o st.as (R.app st).as->Qd P E kp n ops o st.as (R'.app st).as)
 | [],R,R',h,hf=>by
  unfold rkL at h;cases h;exact ⟨rfl,fun _ h=>h,id⟩
 | q::qs,R,R',h,hf=>by
  unfold rkL at h
  cases hc:(ob_ bs q).alive || QD q R.hp || WF q (obs R.hp) || YP q (avs R.sl) with
  | true=>rw [hc] at h;cases h
  | false =>
   rw [hc] at h;simp only [cond_false] at h;simp only [Qxw] at hc;obtain ⟨⟨⟨c1,c2⟩,c3⟩,c4⟩:=hc;obtain ⟨a1,a2,a3⟩:=Qqb qs h hf;refine ⟨a1,fun p hp=>a2 p (Qxv _ hp),fun k=>a3 ?_⟩
   have hfr:st.free kp q=true:=by
    rcases hf (q,_) (a2 _ (QxH ..)) with k | k
    ·rw [c1] at k;cases k
    ·exact k
   rw [<- Wz] at hfr;obtain ⟨f1,f2,f3,f4⟩:=Qu hfr;refine (k.wk (Qnw q T sz (Jf ?_ ?_ ?_ f4))).wk fun a w h=>h
   ·show (look OB.dead (obs (R.hp++st.heap)) q).alive=false;rw [Q1,Qv,if_neg (by rw [Jk,c2];simp)];exact f1
   ·show WF q (obs (R.hp++st.heap))=false;rw [Q1,ZJ,c3,QxG];exact f2
   ·show YP q (avs (R.sl++st.slots))=false;rw [Qs3,Xb,c4,QxG];exact f3
theorem Qwi {rk:List (Nat×TypeId×Nat×List Nat)} {bs:List (Nat×EB)} {d:Nat} {R0:Option RS} {R:RS} {o:Oper} (h:rkF rk bs d R0=some R) (hC:∀ c∈R.C,c) (hf:∀ p∈R.hp,(ob_ bs p.1).alive=true\/st.free kp p.1=true)
  (k:∀ R1,R0=some R1->(∀ c∈R1.C,c)->(∀ p∈R1.hp,(ob_ bs p.1).alive=true\/st.free kp p.1=true)->Qd P E kp n ops o st.as (R1.app st).as):Qd P E kp n ops o st.as (R.app st).as:=by
 unfold rkF at h;split at h
 ·exact k R h hC hf
 ·split at h
  ·exact k R h hC hf
  ·split at h
   ·obtain ⟨a1,a2,a3⟩:=Qqb (P:=P) (E:=E) (kp:=kp) (n:=n) (ops:=ops) (o:=o) _ h hf;exact a3 (k _ rfl (by rw [<- a1];exact hC) fun p hp=>hf p (a2 p hp))
   ·cases h
theorem Qqc {x e:EV}:Gv x.av (nzV x e).av:=by
 unfold nzV;split
 ·split
  ·intro w Pub φ u k;unfold EV.av RA at k ⊢;unfold RP at k;subst k;unfold EV.pv RP;exact ⟨none,0,rfl,Nat.le_refl _,by unfold maxLen;omega,fun _=>rfl,.inl rfl⟩
  ·exact Gv.r
 ·exact Gv.r
theorem Qwj {nz:List (Nat×Nat×EV)} {x:Operand} {v:EV}:Gv v.av (nzS nz x v).av:=by
 unfold nzS;split
 ·exact Gv.r
 ·split
  ·split
   ·exact Qqc
   ·exact Gv.r
  ·exact Gv.r
theorem Qqd {w:World} {Pub:Nat->Nat->Prop} {φ:Qi}:∀ (l:List EV) (k:Nat) {e:EV} {us:List Value},RAs w Pub φ (avL l) us->RAs w Pub φ (avL (nzL k e l)) us
 | [],_,_,_,h=>by unfold nzL;exact h
 | x::xs,0,e,us,h=>by
  unfold nzL;unfold avL RAs at h ⊢;obtain ⟨u,vs,e1,k1,k2⟩:=h;exact ⟨u,vs,e1,Qqc _ _ _ _ k1,k2⟩
 | x::xs,k+1,e,us,h=>by
  unfold nzL;unfold avL RAs at h ⊢;obtain ⟨u,vs,e1,k1,k2⟩:=h;exact ⟨u,vs,e1,k1,Qqd xs k k2⟩
theorem Qwk {nz:List (Nat×Nat×EV)} {d:Nat} {bs:List (Nat×EB)} {R0:Option RS} {R:RS} {o:Oper} (h:nzF nz d R0=some R) (hC:∀ c∈R.C,c) (hf:∀ p∈R.hp,(ob_ bs p.1).alive=true\/st.free kp p.1=true)
  (k:∀ R1,R0=some R1->(∀ c∈R1.C,c)->(∀ p∈R1.hp,(ob_ bs p.1).alive=true\/st.free kp p.1=true)->Qd P E kp n ops o st.as (R1.app st).as):Qd P E kp n ops o st.as (R.app st).as:=by
 unfold nzF at h;split at h
 ·exact k R h hC hf
 ·split at h
  ·exact k R h hC hf
  ·next k' e _ =>
   split at h
   ·next C d' l hp =>
    cases h;refine (k ⟨C,[(d',.agg l)],hp⟩ rfl hC hf).wk (Qh4 (sl:=avs ((d',.agg l)::st.slots)) (sl':=avs ((d',.agg (nzL k' e l))::st.slots)) fun t=>?_);show Gv (look AV.any ((d',AV.agg (avL l))::avs st.slots) t) (look AV.any ((d',AV.agg (avL (nzL k' e l)))::avs st.slots) t);rw [Qb,Qb];split
    ·intro w Pub φ u hu;unfold RA at hu ⊢;obtain ⟨vs,e1,hu⟩:=hu;exact ⟨vs,e1,Qqd l k' hu⟩
    ·exact Gv.r
   ·exact k R h hC hf
theorem Qh7 {o:Oper} {R:RS} {vs:List (Nat×EV)} {bs:List (Nat×EB)} (S:Sub vs bs st) (hv:∀ s∈QK o.op.operands.toList,look EV.any vs s=look EV.any st.slots s) (hP:tab.ok P) (h:QaE tab H ops vs bs o=some R) (hC:∀ c∈R.C,c) (hf:∀ p∈R.hp,(ob_ bs p.1).alive=true\/st.free kp p.1=true) (hd:YF o.dst n=true) :
  Qd P E kp n ops o st.as (R.app st).as:=by
 obtain ⟨dst,op,ty,ps,af,gd⟩:=o;unfold QaE at h;simp only at h hd;split at h
 ·split at h
  ·split at h
   ·exact Qwh h hC hf fun R0 h0 hC0=>QnB hP S h0 hC0 (S.v _) ((S.v _).trans Qwj)
   ·exact QtR S hP h
   ·exact Qp7 hP S h hC
   ·cases h
  ·cases h
 ·next d =>
  have hd':Qxz d n=true:=hd
  cases hb:(ob_ bs (nmB d)).alive || (ob_ bs (nmZ d)).alive with
  | true=>rw [hb] at h;cases h
  | false =>
   rw [hb] at h;simp only [cond_false] at h;rw [Qxw] at hb;split at h
   ·exact Qwk h hC hf fun R2 h2 hC2 hf2=>Qwi h2 hC2 hf2 fun R1 h1 hC1 hf1=>QnM S hP h1 hC1 hf1 hb.1 hb.2 hd'
   ·next j want =>
    split at h
    ·cases h
    ·next c hg =>
     have hg:=JU S hg;have hpk:=QbB hv;split at h
     ·split at h
      ·next C x hp =>
       cases h;exact XO hg hd' fun hc=>Qh5 S hp (Vm hc hC) hd'
      ·cases h
     ·split at h
      ·next R' hgm=>cases h;exact QtS S hgm hC hg hd'
      split at h
      ·next C d' x hp =>
       cases hbd:Qxy d' d with
       | false=>rw [hbd] at h;cases h
       | true =>
        rw [hbd] at h;cases h;rw [hpk] at hp hC;have e:=Qc hbd;subst e;refine XO hg hd' fun hc=>?_;have h2:=Vm hc hC;have sg:=QdL (st:=st) (l:=QK op.operands.toList) (fun c hc=>h2 c (QxC _ hc));have k:=Vj (P:=P) (E:=E) (kp:=kp) (n:=n) (ops:=ops) (ps:=ps) (af:=af) hP (Qfb (st:=st) (l:=QK op.operands.toList) S.b) hp (fun c hc=>h2 c (QxA _ hc)) (fun p hp=>by cases hp) hb.1 hb.2 hd';refine (k.pre (st:=st.as) ?_).wk ?_
        ·refine Qh4 (sl:=st.as.slots) fun t=>?_;have:=(sg t).1;rw [Q8];exact this
        ·refine Qh4 (h:=st.as.heap) (sl:=avs ([(d',x)]++(Wb (pkV st.slots (QK op.operands.toList))++st.slots))) fun t=>?_;have:=(sg t).2;show Gv (look AV.any ((d',x.av)::avs _) t) (look AV.any ((d',x.av)::st.as.slots) t);rw [Qb,Qb];split
         ·exact Gv.r
         ·rw [Q8];exact this
      ·cases h;exact XO hg hd' fun hc=>by have e:=hC (c=false) (by simp);rw [e] at hc;cases hc
end
end
end Go.Proofs.YtcebndkiagbddaaGreatDoor
