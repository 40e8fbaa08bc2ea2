/- censusref04.In, Holds, Any; censusref20.Truth, Eval; no condition. -/
import Derived.Test.YtllkogdgmmcfgaaGreatDoorWxG
import Derived.Test.YtllkogdgmmcfgaaGreatDoorWa
import Derived.Test.YtllkogdgmmcfgaaGreatDoorPa23
import Derived.Test.YtllkogdgmmcfgaaGreatDoorLd
/- Vz23: censusref04.In, Holds, Any; censusref20.Truth, Eval; no condition. -/
namespace Go.Proofs.YtllkogdgmmcfgaaGreatDoor
set_option linter.unusedVariables false
set_option linter.unusedSimpArgs false
set_option linter.unusedSectionVars false
open Go.RowKit
set_option maxRecDepth 100000
@[simp] def g_r4In : List AV → Option (AV × Bool)
 | [a0, .v (.int .i64 v)] => (match toSet a0 with | some s => if (okI v && (decide (1 ≤ v) && decide (v ≤ 128))) = true then some (.v (.bool (sHas s v)), true) else none | none => none)
 | _ => none
theorem e_r4In : EntOk Tryz.prog 65 g_r4In := ent_fresh (by kernel_rfl) fun args r fr h => by
 unfold g_r4In at h
 split at h
 ·rename_i a0 v
  split at h
  ·rename_i s t0
   split at h
   ·rename_i hc
    simp only [Bool.and_eq_true] at hc
    obtain ⟨o1, hk⟩ := hc
    cases h
    exact fresh_gives (fun G => .v _) fun S w vs hS hn hv => by
     obtain ⟨u0, u1, rfl, r0, r1⟩ := args2 hn hv
     have q0 := toSet_rv t0 r0
     subst q0
     have q1 := r1.v_eq
     subst q1
     exact ref04In_c s v w (by simp at hk; exact hk.1) (by simp at hk; exact hk.2)
   ·cases h
  ·cases h
 ·cases h

@[simp] def g_r4Hol : List AV → Option (AV × Bool)
 | [a0, .v (.int .i64 l)] => (match toSet a0 with | some s => if (okI l) = true then some (.v (.bool (litHolds s l)), true) else none | none => none)
 | _ => none
theorem e_r4Hol : EntOk Tryz.prog 41 g_r4Hol := ent_fresh (by kernel_rfl) fun args r fr h => by
 unfold g_r4Hol at h
 split at h
 ·rename_i a0 l
  split at h
  ·rename_i s t0
   split at h
   ·rename_i hc
    have o1 := hc
    cases h
    exact fresh_gives (fun G => .v _) fun S w vs hS hn hv => by
     obtain ⟨u0, u1, rfl, r0, r1⟩ := args2 hn hv
     have q0 := toSet_rv t0 r0
     subst q0
     have q1 := r1.v_eq
     subst q1
     exact ref04Holds_c s l w (okI_iff.1 o1)
   ·cases h
  ·cases h
 ·cases h

def l210 : List (FuncId × (List AV → Option (AV × Bool))) :=
 (65, g_r4In) :: (41, g_r4Hol) :: l207
theorem l210_ok : ∀ p ∈ l210, EntOk Tryz.prog p.1 p.2 := ent_cons e_r4In (ent_cons e_r4Hol (l207_ok))
def PT210 : PTab := tab l210
theorem PT210_ok : PTok Tryz.prog PT210 := tab_ok l210_ok
@[simp] theorem PT210_r4In : PT210 65 = g_r4In := rfl
@[simp] theorem PT210_r4Hol : PT210 41 = g_r4Hol := rfl
@[simp] theorem PT210_old (f : FuncId) (h : decide (f ≠ 65 ∧ f ≠ 41) = true) : PT210 f = PT207 f := (fun h => Eq.trans (tab_old h.1) (tab_old h.2)) (of_decide_eq_true h)
end Go.Proofs.YtllkogdgmmcfgaaGreatDoor
/- Vz23b: censusref04.Any; no condition. -/
namespace Go.Proofs.YtllkogdgmmcfgaaGreatDoor
set_option linter.unusedVariables false
set_option linter.unusedSimpArgs false
set_option linter.unusedSectionVars false
open Go.RowKit
attribute [local simp] List.getD_cons_zero List.getD_cons_succ List.getD_nil undef gvars runL runE effA stepA dstOk wantA core lk st dl AS.ev AS.evs AS.put AS.upd updO updI nxt cPick cAlloc cBox cBuild cBuildS cLoad cStore cNil plainOf cBin cNilS isNilS nilA cUn cConvX cConvB cConv bytesOf rowB cMake cSlice slA idxA cFA cF cIA cIX cIS cI cExt cLen cApp cMM cFun cCall lenA lenM isNilM nilM cNilM cMakeM hintB cMapK cLook foundR lookR cUpd putM cDel delM findA isKeyB Instr.sameNow AS.entry AS.bound AS.callee sc1 sc2 ixOk ldA AV.flat AV.cell AV.cells Value.oneCell' fillA spl chunk zeros AS.parts AS.rows AS.shut AS.shut1 AS.shut2 AS.shutL AS.shutM AV.ids idsL idsLL eqAll bndA AV.scalar AV.scalar1 AV.isV Ef.app Ef.pk ptOf pntO wrO wr
attribute [-simp] List.getD_eq_getElem?_getD
set_option maxRecDepth 100000
theorem r4Any_p (s : BitVec 128) (xs : List Int) (hx : okInts xs = true) : FnPure Tryz.prog 20 [aSet s, aInts xs] (.v (.bool (xs.any (litHolds s)))) := by
 have hxl := okInts_len hx
 unfold aSet WV
 refine fn_sp TT_ok Tryz.func20 (c := _) rfl (by simp [Tryz.ntmps20]) (fun B hI0 hro => ?_)
 rw [Tryz.ntmps20]
 simp only [enumA]
 refine amGo PT210_ok (h := ?_)
 refine s_loop (J := fun k : {k : Nat // k ≤ xs.length ∧ Hid ((xs.take k).any (litHolds s) = false)} => ⟨18, [(1, aInts xs), (2, .ptr 0 0 0), (4, .v (.bool false)), (5, .v (.int .i64 (k.1 : Int)))], [(0, ⟨47, 2, [[.v (.int .u64 ((lo s).toNat : Int)), .v (.int .u64 ((hi s).toNat : Int))]]⟩)], [0]⟩) (μ := fun k => xs.length - k.1) ⟨0, Nat.zero_le _, Lib.hid rfl⟩ ?_ (fun ⟨k, hk, HB⟩ => ?_)
 ·(refine weak_id rfl ?_ ?_ <;> ((try simp only [List.mem_cons, List.not_mem_nil, or_false, forall_eq_or_imp, forall_eq]); (try simp (disch := omega) [i64w, *])))
 try dsimp only at hk HB
 try dsimp only
 refine amStr (h := ?_)
 refine amReg PT210_ok (h := ?_)
 refine amStr (h := ?_)
 (focus ((with_reducible refine sp_cond (b := ?_) ?_ (fun hc => ?_) (fun hc => ?_)); rotate_left; (focus (first | rfl | (simp [lk, AS.ev]; rfl))); all_goals (try simp at hc)))
 ·have hkk : k < xs.length := by omega
  clear hc
  have hki : (k : Int) < (xs.length : Int) := by omega
  have HY := Lib.hid (any_take_yes (f := litHolds s) (d := 0) hkk)
  have HN := Lib.hid (any_take_step (f := litHolds s) (d := 0) hkk HB.out)
  have hyo : okI (xs.getD k 0) = true := okI_iff.2 (okInts_at hx k)
  have hwk : IntKind.i64.wrap ((k : Int) + 1) = (k : Int) + 1 := i64s k (by omega)
  obtain ⟨y, hy⟩ : ∃ y, xs.getD k 0 = y := ⟨_, rfl⟩
  rw [hy] at HY HN hyo
  cases hh : litHolds s y
  ·refine amStr (h := ?_)
   refine amDrw PT210_ok (h := ?_)
   refine amStr (h := ?_)
   refine amReg PT210_ok (h := ?_)
   refine k_lp (⟨k + 1, hkk, Lib.hid (HN.out hh)⟩ : {k : Nat // k ≤ xs.length ∧ Hid ((xs.take k).any (litHolds s) = false)}) (by dsimp only; omega) ?_
   (refine weak_id rfl ?_ ?_ <;> ((try simp only [List.mem_cons, List.not_mem_nil, or_false, forall_eq_or_imp, forall_eq]); (try simp (disch := omega) [i64w, *])))
  ·have hF : xs.any (litHolds s) = true := HY.out hh
   rw [hF]
   refine amStr (h := ?_)
   refine amDrw PT210_ok (h := ?_)
   refine amStr (h := ?_)
   refine amReg PT210_ok (h := ?_)
   refine amStr (h := ?_)
   (refine amRt Tryz.results20 (h := ?_); try simp [*])
 ·obtain rfl : k = xs.length := by omega
  clear hc
  have hF : xs.any (litHolds s) = false := by have := HB.out; rwa [List.take_length] at this
  rw [hF]
  refine amStr (h := ?_)
  refine amReg PT210_ok (h := ?_)
  refine amStr (h := ?_)
  (refine amRt Tryz.results20 (h := ?_); try simp [*])
@[simp] def g_r4Any : List AV → Option (AV × Bool)
 | [a0, a1] => (match toSet a0 with | some s => (match toInts a1 with | some xs => if (okInts xs) = true then some (.v (.bool (xs.any (litHolds s))), false) else none | none => none) | none => none)
 | _ => none
theorem e_r4Any : EntOk Tryz.prog 20 g_r4Any := ent_pure (by kernel_rfl) fun args r fr h => by
 unfold g_r4Any at h
 split at h
 ·rename_i a0 a1
  split at h
  ·rename_i s t0
   split at h
   ·rename_i xs t1
    split at h
    ·rename_i hc
     have o1 := hc
     cases h
     exact ⟨FnPure.cov (r4Any_p s xs o1) (.cons (toSet_inv t0 ▸ Cov.refl _) (.cons (cov_ints t1) .nil)), rfl⟩
    ·cases h
   ·cases h
  ·cases h
 ·cases h

def l211 : List (FuncId × (List AV → Option (AV × Bool))) :=
 (20, g_r4Any) :: l210
theorem l211_ok : ∀ p ∈ l211, EntOk Tryz.prog p.1 p.2 := ent_cons e_r4Any (l210_ok)
def PT211 : PTab := tab l211
theorem PT211_ok : PTok Tryz.prog PT211 := tab_ok l211_ok
@[simp] theorem PT211_r4Any : PT211 20 = g_r4Any := rfl
@[simp] theorem PT211_old (f : FuncId) (h : decide (f ≠ 20) = true) : PT211 f = PT210 f := tab_old (of_decide_eq_true h)
end Go.Proofs.YtllkogdgmmcfgaaGreatDoor
/- Vz23c: censusref20.Truth, Eval; no condition. -/
namespace Go.Proofs.YtllkogdgmmcfgaaGreatDoor
set_option linter.unusedVariables false
set_option linter.unusedSimpArgs false
set_option linter.unusedSectionVars false
open Go.RowKit
attribute [local simp] List.getD_cons_zero List.getD_cons_succ List.getD_nil undef gvars runL runE effA stepA dstOk wantA core lk st dl AS.ev AS.evs AS.put AS.upd updO updI nxt cPick cAlloc cBox cBuild cBuildS cLoad cStore cNil plainOf cBin cNilS isNilS nilA cUn cConvX cConvB cConv bytesOf rowB cMake cSlice slA idxA cFA cF cIA cIX cIS cI cExt cLen cApp cMM cFun cCall lenA lenM isNilM nilM cNilM cMakeM hintB cMapK cLook foundR lookR cUpd putM cDel delM findA isKeyB Instr.sameNow AS.entry AS.bound AS.callee sc1 sc2 ixOk ldA AV.flat AV.cell AV.cells Value.oneCell' fillA spl chunk zeros AS.parts AS.rows AS.shut AS.shut1 AS.shut2 AS.shutL AS.shutM AV.ids idsL idsLL eqAll bndA AV.scalar AV.scalar1 AV.isV Ef.app Ef.pk ptOf pntO wrO wr
attribute [-simp] List.getD_eq_getElem?_getD
set_option maxRecDepth 100000
theorem s_cutZ {P : Program} {B : Base} {x y : Code} {σ : AS} {Q : Exit → AS → Prop} (S : AS) (h : SP P B x σ (fun e τ => e = .normal ∧ ∀ c Q', SP P B c S Q' → SP P B c τ Q')) (k : SP P B y S Q) : SP P B x σ (Kseq P B y Q) :=
 sp_mono h fun e τ h => by obtain ⟨rfl, h⟩ := h; exact k_seq (h y Q k)
theorem gmemZ {xs : List Int} {j : Nat} (hj : j < xs.length) : xs.getD j 0 ∈ xs := by
 have : xs.getD j 0 = xs[j] := by simp [List.getD, hj]
 rw [this]; exact List.getElem_mem hj
@[simp ↓ high] theorem d_idsLL_bl (l : List Bool) : idsLL (l.map fun b => [AV.v (.bool b)]) = [] := bids l
@[simp ↓ high] theorem d_ren_bl (ρ : Nat → Nat) (l : List Bool) : renLL ρ (l.map fun b => [AV.v (.bool b)]) = l.map fun b => [AV.v (.bool b)] := renLL_pure ρ _ (bids l)
def accB (s : BitVec 128) (x : Nd) (out : List Bool) (j : Nat) : Bool :=
 if x.1 = 3 then (x.2.2.take j).all (fun k => out.getD k.toNat false) else (decide (x.1 = 1) || (decide (x.1 = 2) && litHolds s x.2.1)) || (x.2.2.take j).any fun k => out.getD k.toNat false
theorem accB_and {s : BitVec 128} {x : Nd} {out : List Bool} {j : Nat} (hj : j < x.2.2.length) (hk : x.1 = 3) : accB s x out (j + 1) = (accB s x out j && out.getD (x.2.2.getD j 0).toNat false) := by
 unfold accB
 have e : x.2.2.getD j 0 = x.2.2[j] := by simp [List.getD, hj]
 rw [if_pos hk, if_pos hk, List.take_succ_eq_append_getElem hj, List.all_append, e]; simp
theorem accB_or {s : BitVec 128} {x : Nd} {out : List Bool} {j : Nat} (hj : j < x.2.2.length) (hk : x.1 ≠ 3) : accB s x out (j + 1) = (accB s x out j || out.getD (x.2.2.getD j 0).toNat false) := by
 unfold accB
 have e : x.2.2.getD j 0 = x.2.2[j] := by simp [List.getD, hj]
 rw [if_neg hk, if_neg hk, List.take_succ_eq_append_getElem hj, List.any_append, e]; simp [Bool.or_assoc]
theorem accB_all {s : BitVec 128} {x : Nd} {n i : Int} (hf : formB x n i = true) (out : List Bool) : accB s x out x.2.2.length = nodeV s x out := by
 unfold accB nodeV
 rw [List.take_length]
 rcases form_kind hf with e | e | e | e | e
 ·rw [form_in0 hf (.inl e), e]; simp
 ·rw [form_in0 hf (.inr (.inl e)), e]; simp
 ·rw [form_in0 hf (.inr (.inr e)), e, litV_holds]; simp
 ·rw [e]; simp
 ·rw [e]; simp
theorem valsL_lenT (s : BitVec 128) (ns : List Nd) {k : Nat} (hk : k ≤ ns.length) : (valsL s (ns.take k)).length = k := scanN_lenT (nodeV s) ns k hk
theorem valsL_take {N : Int} {s : BitVec 128} {ns : List Nd} (hv : validN N ns = true) {k : Nat} (hk : k < ns.length) : valsL s (ns.take (k + 1)) = valsL s (ns.take k) ++ [accB s (ns.getD k nd0) (valsL s (ns.take k)) (ns.getD k nd0).2.2.length] := by
 unfold valsL
 rw [scanN_take (nodeV s) hk, accB_all (valid_form hv hk)]
def boolsV (l : List Bool) : AV := .sl 1 (l.map fun b => [.v (.bool b)])
set_option maxHeartbeats 4000000 in
theorem truth_p (N : Int) (ns : List Nd) (s : BitVec 128) (h : okNs ns = true) (hv : validN N ns = true) : FnPure Tryz.prog 38 [aNet N ns, aSet s] (boolsV (valsL s ns)) := by
 have hl := okNs_len h
 unfold aNet aNds aSet WV boolsV
 refine fn_sp TT_ok Tryz.func38 (c := _) rfl (by simp [Tryz.ntmps38]) (fun B hI0 hro => ?_)
 rw [Tryz.ntmps38]
 simp only [enumA]
 refine amGo PT211_ok (h := ?_)
 refine s_nil 5 50 4 1 (by simp [lk]) (by simp) ?_
 simp only [st]
 refine s_loop (J := fun i : {k : Nat // k ≤ ns.length} => ⟨78, [(2, .ptr 0 0 0), (3, .ptr 1 0 0), (5, .ref 50 0 (valsL s (ns.take i.1)).length), (6, .v (.int .i64 (i.1 : Int)))], [(50, ⟨4, 1, (valsL s (ns.take i.1)).map fun b => [AV.v (.bool b)]⟩), (0, ⟨28, 2, [[.v (.int .i64 N), .sl 3 (ns.map fun x => [AV.v (.int .i64 x.1), .v (.int .i64 x.2.1), aInts x.2.2])]]⟩), (1, ⟨47, 2, [[.v (.int .u64 ((lo s).toNat : Int)), .v (.int .u64 ((hi s).toNat : Int))]]⟩)], [50, 1, 0]⟩) (μ := fun i => ns.length - i.1) ⟨0, Nat.zero_le _⟩ ?_ (fun ⟨k, hk⟩ => ?_)
 ·have h0 : valsL s [] = [] := rfl
  (refine weak_id rfl ?_ ?_ <;> ((try simp only [List.mem_cons, List.not_mem_nil, or_false, forall_eq_or_imp, forall_eq]); (try simp (disch := omega) [i64w, *])))
 dsimp only
 have hO := valsL_lenT s ns hk
 have HTK := Lib.hid (fun hkk : k < ns.length => valsL_take (s := s) hv hkk)
 generalize hgo : valsL s (ns.take k) = O at hO HTK ⊢
 refine amStr (h := ?_)
 refine amReg PT211_ok (h := ?_)
 refine amStr (h := ?_)
 (focus ((with_reducible refine sp_cond (b := ?_) ?_ (fun hc => ?_) (fun hc => ?_)); rotate_left; (focus (first | rfl | (simp [lk, AS.ev]; rfl))); all_goals (try simp at hc)))
 ·have hkk : k < ns.length := by omega
  clear hc
  have htk := HTK.out hkk
  clear HTK
  have hfm := valid_form hv hkk
  obtain ⟨o1, o2, o3, o5⟩ := okNs_at h hkk
  have o6 := okInts_len o3
  have hget := nds_get hkk
  have hki : (k : Int) < (ns.length : Int) := by omega
  have hwk : IntKind.i64.wrap ((k : Int) + 1) = (k : Int) + 1 := i64s k (by omega)
  have hin : ∀ j, j < (ns.getD k nd0).2.2.length → ∃ m : Nat, (ns.getD k nd0).2.2.getD j 0 = (m : Int) ∧ m < k := fun j hj => by
   have := form_in hfm (gmemZ hj)
   exact ⟨((ns.getD k nd0).2.2.getD j 0).toNat, by omega, by omega⟩
  have hkd := form_kind hfm
  obtain ⟨x, hx⟩ : ∃ x, ns.getD k nd0 = x := ⟨_, rfl⟩
  rw [hx] at htk o1 o2 o3 o5 o6 hget hin hkd
  have ha0 : accB s x O 0 = (decide (x.1 = 3) || (decide (x.1 = 1) || (decide (x.1 = 2) && litHolds s x.2.1))) := by
   unfold accB
   by_cases e : x.1 = 3 <;> simp [e]
  have haA := fun j (hj : j < x.2.2.length) (hk3 : x.1 = 3) => accB_and (s := s) (out := O) hj hk3
  have haO := fun j (hj : j < x.2.2.length) (hk3 : x.1 ≠ 3) => accB_or (s := s) (out := O) hj hk3
  have HA0 := Lib.hid ha0
  have HAA := Lib.hid haA
  have HAO := Lib.hid haO
  have HIN := Lib.hid hin
  clear ha0 haA haO hin hfm hx
  obtain ⟨acc, hacc⟩ : ∃ f : Nat → Bool, (fun j => accB s x O j) = f := ⟨_, rfl⟩
  have hacc2 : ∀ j, accB s x O j = acc j := fun j => congrFun hacc j
  rw [hacc2] at htk HA0
  simp only [hacc2] at HAA HAO
  have HTK := Lib.hid htk
  clear hacc hacc2 htk
  obtain ⟨K, l, is⟩ := x
  simp only at o1 o2 o3 o5 o6 hget HIN hkd HTK HA0 HAA HAO
  refine amStr (h := ?_)
  refine amReg PT211_ok (h := ?_)
  refine k_seq ?_
  refine s_seq ?_
  refine s_cutZ ⟨78, [(2, .ptr 0 0 0), (3, .ptr 1 0 0), (5, .ref 50 0 O.length), (6, .v (.int .i64 (k : Int))), (7, .ptr 56 0 0), (8, .v (.bool (acc 0)))], [(56, ⟨32, 3, [[.v (.int .i64 K), .v (.int .i64 l), aInts is]]⟩), (50, ⟨4, 1, O.map fun b => [AV.v (.bool b)]⟩), (0, ⟨28, 2, [[.v (.int .i64 N), .sl 3 (ns.map fun x => [AV.v (.int .i64 x.1), .v (.int .i64 x.2.1), aInts x.2.2])]]⟩), (1, ⟨47, 2, [[.v (.int .u64 ((lo s).toNat : Int)), .v (.int .u64 ((hi s).toNat : Int))]]⟩)], [56, 50, 1, 0]⟩ ?_ ?_
  ·rcases hkd with e | e | e | e | e
   all_goals
    subst e
    have ha := HA0.out
    simp at ha
    clear HIN
    refine amReg PT211_ok (h := ?_)
    refine ⟨rfl, fun c Q' k => ?_⟩
    refine s_weak _ ?_ k
    (refine weak_id rfl ?_ ?_ <;> ((try simp only [List.mem_cons, List.not_mem_nil, or_false, forall_eq_or_imp, forall_eq]); (try simp (disch := omega) [i64w, *])))
  clear HA0
  refine amStr (h := ?_)
  refine amReg PT211_ok (h := ?_)
  refine amStr (h := ?_)
  refine s_loop (J := fun j : {j : Nat // j ≤ is.length} => ⟨78, [(2, .ptr 0 0 0), (3, .ptr 1 0 0), (5, .ref 50 0 O.length), (6, .v (.int .i64 (k : Int))), (7, .ptr 56 0 0), (8, .v (.bool (acc j.1))), (9, .v (.int .i64 (j.1 : Int)))], [(56, ⟨32, 3, [[.v (.int .i64 K), .v (.int .i64 l), aInts is]]⟩), (50, ⟨4, 1, O.map fun b => [AV.v (.bool b)]⟩), (0, ⟨28, 2, [[.v (.int .i64 N), .sl 3 (ns.map fun x => [AV.v (.int .i64 x.1), .v (.int .i64 x.2.1), aInts x.2.2])]]⟩), (1, ⟨47, 2, [[.v (.int .u64 ((lo s).toNat : Int)), .v (.int .u64 ((hi s).toNat : Int))]]⟩)], [56, 50, 1, 0]⟩) (μ := fun j => is.length - j.1) ⟨0, Nat.zero_le _⟩ ?_ (fun ⟨j, hj⟩ => ?_)
  ·(refine weak_id rfl ?_ ?_ <;> ((try simp only [List.mem_cons, List.not_mem_nil, or_false, forall_eq_or_imp, forall_eq]); (try simp (disch := omega) [i64w, *])))
  dsimp only
  refine amStr (h := ?_)
  refine amReg PT211_ok (h := ?_)
  refine amStr (h := ?_)
  (focus ((with_reducible refine sp_cond (b := ?_) ?_ (fun hc => ?_) (fun hc => ?_)); rotate_left; (focus (first | rfl | (simp [lk, AS.ev]; rfl))); all_goals (try simp at hc)))
  ·have hjj : j < is.length := by omega
   clear hc
   have hji : (j : Int) < (is.length : Int) := by omega
   have hwj : IntKind.i64.wrap ((j : Int) + 1) = (j : Int) + 1 := i64s j (by omega)
   obtain ⟨m, hm1, hm2⟩ := HIN.out j hjj
   have hmO : m < O.length := by omega
   have hmi : (m : Int) < (O.length : Int) := by omega
   have hgb := bget hmO
   have h3 := HAA.out j hjj
   have h4 := HAO.out j hjj
   rw [hm1, Int.toNat_natCast] at h3 h4
   obtain ⟨y, hy⟩ : ∃ y, O.getD m false = y := ⟨_, rfl⟩
   rw [hy] at hgb h3 h4
   obtain ⟨b, hb⟩ : ∃ b, acc j = b := ⟨_, rfl⟩
   rw [hb] at h3 h4 ⊢
   clear hy hget
   have H3 := Lib.hid h3
   have H4 := Lib.hid h4
   clear h3 h4 hb
   by_cases hk3 : K = 3
   ·subst hk3
    have hs := H3.out rfl
    cases b
    all_goals
     simp at hs
     refine amStr (h := ?_)
     refine amReg PT211_ok (h := ?_)
     refine amStr (h := ?_)
     refine amReg PT211_ok (h := ?_)
     refine amStr (h := ?_)
     refine amReg PT211_ok (h := ?_)
     refine k_lp (⟨j + 1, hjj⟩ : {j : Nat // j ≤ is.length}) (by first | omega | (dsimp only; omega)) ?_
     (refine weak_id rfl ?_ ?_ <;> ((try simp only [List.mem_cons, List.not_mem_nil, or_false, forall_eq_or_imp, forall_eq]); (try simp (disch := omega) [i64w, *])))
   ·have hs := H4.out hk3
    have hk3b : (K == 3) = false := by simpa using hk3
    cases b
    all_goals
     simp at hs
     refine amStr (h := ?_)
     refine amReg PT211_ok (h := ?_)
     refine amStr (h := ?_)
     refine amReg PT211_ok (h := ?_)
     refine amStr (h := ?_)
     refine amReg PT211_ok (h := ?_)
     refine k_lp (⟨j + 1, hjj⟩ : {j : Nat // j ≤ is.length}) (by first | omega | (dsimp only; omega)) ?_
     (refine weak_id rfl ?_ ?_ <;> ((try simp only [List.mem_cons, List.not_mem_nil, or_false, forall_eq_or_imp, forall_eq]); (try simp (disch := omega) [i64w, *])))
  ·obtain rfl : j = is.length := by omega
   clear hc
   have htk := HTK.out
   have hcap : k + 1 ≤ 140737488355328 := by omega
   clear HTK HAA HAO HIN
   refine amStr (h := ?_)
   refine amReg PT211_ok (h := ?_)
   refine amStr (h := ?_)
   refine amReg PT211_ok (h := ?_)
   refine k_lp (⟨k + 1, by omega⟩ : {k : Nat // k ≤ ns.length}) (by first | omega | (dsimp only; omega)) ?_
   (refine weak_of (fun q => if q = 50 then 60 else q) ⟨rfl, ?_, ?_, ?_⟩ <;> ((try simp only [List.mem_cons, List.not_mem_nil, or_false, forall_eq_or_imp, forall_eq]); (try simp (disch := omega) [lk, AV.ids, idsL, idsLL, AV.ren, renL, renLL, i64w, *])))
 ·obtain rfl : k = ns.length := by omega
  rw [List.take_length] at hgo
  rw [hgo]
  clear HTK
  refine amStr (h := ?_)
  refine amReg PT211_ok (h := ?_)
  refine amStr (h := ?_)
  (refine amRt Tryz.results38 (h := ?_); try simp [*])
  rw [← hO, show List.take O.length (List.map (fun b => [AV.v (Value.bool b)]) O) = List.map (fun b => [AV.v (Value.bool b)]) O from List.take_of_length_le (by simp)]
  exact ⟨bids O, rfl⟩
@[simp] def g_r20Tru : List AV → Option (AV × Bool)
 | [.agg [.v (.int .i64 N), a0], a1] => (match toNds a0 with | some ns => (match toSet a1 with | some s => if (okI N && okNs ns && validN N ns) = true then some (boolsV (valsL s ns), false) else none | none => none) | none => none)
 | _ => none
theorem e_r20Tru : EntOk Tryz.prog 38 g_r20Tru := ent_pure (by kernel_rfl) fun args r fr h => by
 unfold g_r20Tru at h
 split at h
 ·rename_i N a0 a1
  split at h
  ·rename_i ns t0
   split at h
   ·rename_i s t1
    split at h
    ·rename_i hc
     simp only [Bool.and_eq_true] at hc
     obtain ⟨⟨m0, o0⟩, hk⟩ := hc
     cases h
     exact ⟨FnPure.cov (truth_p N ns s o0 hk) (.cons (cov_th _ (cov_nds t0)) (.cons (toSet_inv t1 ▸ Cov.refl _) .nil)), rfl⟩
    ·cases h
   ·cases h
  ·cases h
 ·cases h

def l212 : List (FuncId × (List AV → Option (AV × Bool))) :=
 (38, g_r20Tru) :: l211
theorem l212_ok : ∀ p ∈ l212, EntOk Tryz.prog p.1 p.2 := ent_cons e_r20Tru (l211_ok)
def PT212 : PTab := tab l212
theorem PT212_ok : PTok Tryz.prog PT212 := tab_ok l212_ok
@[simp] theorem PT212_r20Tru : PT212 38 = g_r20Tru := rfl
@[simp] theorem PT212_old (f : FuncId) (h : decide (f ≠ 38) = true) : PT212 f = PT211 f := tab_old (of_decide_eq_true h)
end Go.Proofs.YtllkogdgmmcfgaaGreatDoor
/- Vz23d: censusref20.Eval; no condition. -/
namespace Go.Proofs.YtllkogdgmmcfgaaGreatDoor
set_option linter.unusedVariables false
set_option linter.unusedSimpArgs false
set_option linter.unusedSectionVars false
open Go.RowKit
attribute [local simp] List.getD_cons_zero List.getD_cons_succ List.getD_nil undef gvars runL runE effA stepA dstOk wantA core lk st dl AS.ev AS.evs AS.put AS.upd updO updI nxt cPick cAlloc cBox cBuild cBuildS cLoad cStore cNil plainOf cBin cNilS isNilS nilA cUn cConvX cConvB cConv bytesOf rowB cMake cSlice slA idxA cFA cF cIA cIX cIS cI cExt cLen cApp cMM cFun cCall lenA lenM isNilM nilM cNilM cMakeM hintB cMapK cLook foundR lookR cUpd putM cDel delM findA isKeyB Instr.sameNow AS.entry AS.bound AS.callee sc1 sc2 ixOk ldA AV.flat AV.cell AV.cells Value.oneCell' fillA spl chunk zeros AS.parts AS.rows AS.shut AS.shut1 AS.shut2 AS.shutL AS.shutM AV.ids idsL idsLL eqAll bndA AV.scalar AV.scalar1 AV.isV Ef.app Ef.pk ptOf pntO wrO wr
attribute [-simp] List.getD_eq_getElem?_getD
set_option maxRecDepth 100000
theorem r20Eval_p (N : Int) (ns : List Nd) (s : BitVec 128) (hN : okI N = true) (h : okNs ns = true) : FnPure Tryz.prog 16 [aNet N ns, aSet s] (.v (.bool (evalN N ns s))) := by
 have hl := okNs_len h
 unfold aNet aNds aSet WV evalN
 cases hv : validN N ns
 ·refine fn_sp TT_ok Tryz.func16 (c := _) rfl (by simp [Tryz.ntmps16]) (fun B hI0 hro => ?_)
  rw [Tryz.ntmps16]
  simp only [enumA]
  refine amStr (h := ?_)
  refine amReg PT212_ok (h := ?_)
  refine amStr (h := ?_)
  refine amDrw PT212_ok (h := ?_)
  refine amStr (h := ?_)
  (refine amRt Tryz.results16 (h := ?_); try simp [*])
 have hlv := valid_len hv
 obtain ⟨m, hm⟩ : ∃ m, ns.length - 1 = m := ⟨_, rfl⟩
 have hw1 : IntKind.i64.wrap ((ns.length : Int) - 1) = (m : Int) := by rw [i64w (by omega) (by omega)]; omega
 have hvl : (valsL s ns).length = ns.length := scanN_len (nodeV s) ns
 have hgb := bget (A := valsL s ns) (k := ns.length - 1) (by omega)
 have hev : evalR ns s = (valsL s ns).getD (ns.length - 1) false := rfl
 rw [← hev, hm] at hgb
 obtain ⟨V, hV⟩ : ∃ V, valsL s ns = V := ⟨_, rfl⟩
 rw [hV] at hvl hgb
 have hbV : boolsV (valsL s ns) = .sl 1 (V.map fun b => [.v (.bool b)]) := by rw [hV]; rfl
 have hi : m < V.length := by omega
 have hii : (m : Int) < (V.length : Int) := by omega
 clear hV hev hm hvl hlv
 rw [Bool.true_and]
 refine fn_sp TT_ok Tryz.func16 (c := _) rfl (by simp [Tryz.ntmps16]) (fun B hI0 hro => ?_)
 rw [Tryz.ntmps16]
 simp only [enumA]
 refine amStr (h := ?_)
 refine amReg PT212_ok (h := ?_)
 refine amStr (h := ?_)
 refine amDrw PT212_ok (h := ?_)
 refine amStr (h := ?_)
 (refine amRt Tryz.results16 (h := ?_); try simp [*])
@[simp] def g_r20Ev : List AV → Option (AV × Bool)
 | [.agg [.v (.int .i64 N), a0], a1] => (match toNds a0 with | some ns => (match toSet a1 with | some s => if (okI N && okNs ns) = true then some (.v (.bool (evalN N ns s)), false) else none | none => none) | none => none)
 | _ => none
theorem e_r20Ev : EntOk Tryz.prog 16 g_r20Ev := ent_pure (by kernel_rfl) fun args r fr h => by
 unfold g_r20Ev at h
 split at h
 ·rename_i N a0 a1
  split at h
  ·rename_i ns t0
   split at h
   ·rename_i s t1
    split at h
    ·rename_i hc
     simp only [Bool.and_eq_true] at hc
     obtain ⟨m0, o0⟩ := hc
     cases h
     exact ⟨FnPure.cov (r20Eval_p N ns s m0 o0) (.cons (cov_th _ (cov_nds t0)) (.cons (toSet_inv t1 ▸ Cov.refl _) .nil)), rfl⟩
    ·cases h
   ·cases h
  ·cases h
 ·cases h

def l213 : List (FuncId × (List AV → Option (AV × Bool))) :=
 (16, g_r20Ev) :: l212
theorem l213_ok : ∀ p ∈ l213, EntOk Tryz.prog p.1 p.2 := ent_cons e_r20Ev (l212_ok)
def PT213 : PTab := tab l213
theorem PT213_ok : PTok Tryz.prog PT213 := tab_ok l213_ok
@[simp] theorem PT213_r20Ev : PT213 16 = g_r20Ev := rfl
@[simp] theorem PT213_old (f : FuncId) (h : decide (f ≠ 16) = true) : PT213 f = PT212 f := tab_old (of_decide_eq_true h)
end Go.Proofs.YtllkogdgmmcfgaaGreatDoor
/- Ls0: Sets of a word, for at most 10 variables; plain; no condition. -/
namespace Go.Proofs.YtllkogdgmmcfgaaGreatDoor
set_option linter.unusedVariables false
set_option linter.unusedSimpArgs false
set_option linter.unusedSectionVars false
open Go.RowKit
set_option maxRecDepth 100000
def nSet (k : Nat) : BitVec 128 := BitVec.ofNat 128 k
theorem sHas_nSet {k : Nat} (hk : k < 2 ^ 64) {v : Int} (h1 : 1 ≤ v) (h2 : v ≤ 128) : sHas (nSet k) v = k.testBit (v.toNat - 1) := by
 unfold sHas nSet
 rw [decide_eq_true h1, decide_eq_true h2, Bool.true_and, Bool.true_and, BitVec.getLsbD_ofNat, decide_eq_true (by omega : (v - 1).toNat < 128), Bool.true_and]
 congr 1; omega
theorem toSet_natZ {k : Nat} (hk : k < 2 ^ 64) : toSet (.agg [.v (.int .u64 (k : Int)), .v (.int .u64 0)]) = some (nSet k) := by
 show (if (BitVec.ofNat 64 k).toNat = k ∧ (BitVec.ofNat 64 0).toNat = 0 then some (BitVec.ofNat 64 0 ++ BitVec.ofNat 64 k) else none) = _
 rw [if_pos ⟨by rw [BitVec.toNat_ofNat]; exact Nat.mod_eq_of_lt hk, rfl⟩]
 congr 1
 apply BitVec.eq_of_toNat_eq
 unfold nSet
 rw [BitVec.toNat_append, BitVec.toNat_ofNat, BitVec.toNat_ofNat, BitVec.toNat_ofNat]
 rw [Nat.mod_eq_of_lt hk, Nat.mod_eq_of_lt (Nat.lt_of_lt_of_le hk (Nat.pow_le_pow_right (by omega) (by omega)))]
 simp
theorem sUpto_natZ {k n : Nat} (hk : k < 2 ^ n) (hn : n ≤ 64) : sUpto (nSet k) (n : Int) = true := by
 rw [sUpto_iff _ _ (by omega)]
 intro v hv
 have hk64 : k < 2 ^ 64 := Nat.lt_of_lt_of_le hk (Nat.pow_le_pow_right (by omega) hn)
 by_cases h : v ≤ 128
 ·rw [sHas_nSet hk64 (by omega) h]
  exact Nat.testBit_lt_two_pow (Nat.lt_of_lt_of_le hk (Nat.pow_le_pow_right (by omega) (by omega)))
 ·unfold sHas
  rw [decide_eq_false h]; simp
theorem two_cast {n : Nat} (h1 : 2 ^ n ≤ 2 ^ 10) : (2 : Int) ^ n ≤ 18446744073709551615 := by
 have : (2 : Int) ^ n = ((2 ^ n : Nat) : Int) := by push_cast; rfl
 omega
theorem two_shlZ {n : Nat} (hn : n ≤ 10) : IntKind.u64.wrap (2 ^ min n IntKind.u64.bits) = ((2 ^ n : Nat) : Int) := by
 rw [show min n IntKind.u64.bits = n from by have : IntKind.u64.bits = 64 := rfl; omega]
 have h1 : 2 ^ n ≤ 2 ^ 10 := Nat.pow_le_pow_right (by omega) hn
 have h2 := Nat.two_pow_pos n
 rw [u64w (by exact_mod_cast Nat.zero_le _) (two_cast h1)]
 push_cast; rfl
theorem ver_eval {N : Int} {L : List (List Int)} {M : Int} {ns : List Nd} {cl : List Cl} (h : AccV N L M ns cl) {s : BitVec 128} (hs : sUpto s N = true) : evalN N ns s = evalT N L s := by
 unfold evalN
 rw [h.hv, evalT_cl h.hz, hs, Bool.true_and, Bool.true_and, ver_sound h hs]
end Go.Proofs.YtllkogdgmmcfgaaGreatDoor
