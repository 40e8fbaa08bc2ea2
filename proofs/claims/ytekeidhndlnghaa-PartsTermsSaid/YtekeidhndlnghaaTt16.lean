/- The law PartsTerms returns true; no condition. -/
import Derived.Test.YtekeidhndlnghaaSyG
import Derived.Test.YtekeidhndlnghaaWa
import Derived.Test.YtekeidhndlnghaaRows
namespace Go.Proofs.Ytekeidhndlnghaa
set_option linter.unusedVariables false
set_option linter.unusedSimpArgs false
set_option linter.unusedSectionVars false
open Go.ChangeShapes Go.WideShapes Go.ChangeAt Go.RowKit
attribute [local simp] List.getD_cons_zero List.getD_cons_succ List.getD_nil undef gvars runL runE effA stepA dstOk wantA core lk st dl AS.ev AS.evs AS.put AS.upd updO updI nxt cPick cAlloc cBox cBuild cBuildS cLoad cStore cNil plainOf cBin cNilS isNilS nilA cUn cConvX cConvB cConv bytesOf rowB cMake cSlice slA idxA cFA cF cIA cIX cIS cI cExt cLen cApp cMM cFun cCall lenA lenM isNilM nilM cNilM cMakeM hintB cMapK cLook foundR lookR cUpd putM cDel delM findA isKeyB Instr.sameNow AS.entry AS.bound AS.callee sc1 sc2 ixOk ldA AV.flat AV.cell AV.cells Value.oneCell' fillA spl chunk zeros AS.parts AS.rows AS.shut AS.shut1 AS.shut2 AS.shutL AS.shutM AV.ids idsL idsLL eqAll bndA AV.scalar AV.scalar1 AV.isV Ef.app Ef.pk ptOf pntO wrO wr
attribute [-simp] List.getD_eq_getElem?_getD
set_option maxRecDepth 100000
section
variable {ts us : List Int} (h : ∀ y, y ∈ us ↔ y ∈ ts)
include h
theorem leftL_mem (c : List Int) : leftL c us = leftL c ts := by unfold leftL; simp [h]
theorem restL_mem (c : List Int) : restL c us = restL c ts := by unfold restL; simp [h]
theorem litVars_mem : litVars us = litVars ts := by
  apply sets_ext
  intro v _ _
  apply Bool.eq_iff_iff.2
  rw [litVars_has, litVars_has]
  simp [h]
theorem growRound_mem : ∀ (L : List (List Int)) (s : BitVec 128), growRound L us s = growRound L ts s
  | [], _ => rfl
  | c :: L, s => by
    show growRound L us (growStep us s c) = growRound L ts (growStep ts s c)
    have e : growStep us s c = growStep ts s c := by unfold growStep; rw [leftL_mem h, restL_mem h]
    rw [e, growRound_mem L]
theorem growIter_mem (L : List (List Int)) (s : BitVec 128) : ∀ k, growIter L us s k = growIter L ts s k
  | 0 => rfl
  | k + 1 => by
    show growRound L us (growIter L us s k) = growRound L ts (growIter L ts s k)
    rw [growIter_mem L s k, growRound_mem h]
theorem refPart_mem (L : List (List Int)) (i : Nat) : refPart L us i = refPart L ts i := by
  unfold refPart growSet growIdx
  simp only [growIter_mem h, leftL_mem h, restL_mem h]
theorem refParts_mem (L : List (List Int)) : ∀ k, refParts L us k = refParts L ts k
  | 0 => by unfold refParts; simp [litVars_mem h]
  | k + 1 => by
    rw [refParts_succ, refParts_succ, refParts_mem L k]
    unfold refStep refHead
    simp only [leftL_mem h, refPart_mem h]
theorem validT_mem (N : Int) (L : List (List Int)) : validT N L us = validT N L ts := by
  unfold validT
  have h1 : (us.all fun y => litOk y N) = (ts.all fun y => litOk y N) := by
    apply Bool.eq_iff_iff.2; rw [List.all_eq_true, List.all_eq_true]; simp [h]
  have h2 : opposed us = opposed ts := by
    apply Bool.eq_iff_iff.2; unfold opposed; rw [List.any_eq_true, List.any_eq_true]; simp [h]
  rw [h1, h2]
theorem spl_mem (N : Int) (L : List (List Int)) : splL N L us = splL N L ts ∧ splF N L us = splF N L ts ∧ splEr N L us = splEr N L ts := by
  unfold splL splF splEr
  rw [validT_mem h, refParts_mem h]
  exact ⟨rfl, rfl, rfl⟩
end
theorem turn_mem (ts : List Int) (K : Nat) (y : Int) : y ∈ ts.drop K ++ ts.take K ++ ts.drop K ↔ y ∈ ts := by
  constructor
  · intro h
    simp only [List.mem_append] at h
    rcases h with (h | h) | h
    · exact List.mem_of_mem_drop h
    · exact List.mem_of_mem_take h
    · exact List.mem_of_mem_drop h
  · intro h
    rw [← List.take_append_drop K ts] at h
    simp only [List.mem_append] at h ⊢
    rcases h with h | h
    · exact .inl (.inr h)
    · exact .inr h
set_option maxHeartbeats 4000000 in
theorem pterms_p (N : Int) (L : List (List Int)) (ts : List Int) (a : Int) (hN : okI N = true) (hL : okLens L = true) (ht : okIL ts = true) (ha0 : 0 ≤ a) (ha1 : a ≤ 255) : FnPure Try.prog 8 [aTh N L, aInts ts, .v (.int .u8 a)] (.v (.bool true)) := by
  cases hf : fewW L ts
  · unfold aTh
    refine fn_sp TT_ok Try.func8 (c := _) rfl (by simp [Try.ntmps8]) (fun B hI0 hro => ?_)
    rw [Try.ntmps8]
    simp only [enumA]
    refine amGo PT95_ok (h := ?_)
    ((refine post_ret (av := ?_) (by first | exact .inl rfl | exact .inr rfl) (show (Try.f8).results.toList = _ from by rw [Try.results8]) ?_ ?_); rotate_left; (focus (simp [retA, retL, ret1, lk, st, ldA, AV.cell]; rfl)); (try simp [*]))
  obtain ⟨h1, h2⟩ := fewW_len hf
  have htr := okInts_il ht (by omega)
  have hok := okParts_spl N L ts
  have hgv := given_p _ hok
  have hsm := same_parts _ hok
  have hmod : Int.tmod a ((ts.length : Int) + 1) = a % ((ts.length : Int) + 1) := Int.tmod_eq_emod_of_nonneg ha0
  obtain ⟨K, hK⟩ : ∃ K : Nat, a % ((ts.length : Int) + 1) = (K : Int) := ⟨(a % ((ts.length : Int) + 1)).toNat, by have := Int.emod_nonneg a (show (ts.length : Int) + 1 ≠ 0 by omega); omega⟩
  have hKl : K ≤ ts.length := by have := Int.emod_lt_of_pos a (show (0 : Int) < (ts.length : Int) + 1 by omega); omega
  rw [hK] at hmod
  have hwa : IntKind.i64.wrap a = a := i64w (by omega) (by omega)
  have hz0 : ¬ ((ts.length : Int) + 1 = 0) := by omega
  have hme := turn_mem ts K
  obtain ⟨m1, m2, m3⟩ := spl_mem hme N L
  have hwl : IntKind.i64.wrap ((ts.length : Int) + 1) = (ts.length : Int) + 1 := i64s ts.length (by omega)
  obtain ⟨l, hl⟩ : ∃ l, splL N L ts = l := ⟨_, rfl⟩
  obtain ⟨f, hfr⟩ : ∃ f, splF N L ts = f := ⟨_, rfl⟩
  obtain ⟨e, her⟩ : ∃ e, splEr N L ts = e := ⟨_, rfl⟩
  rw [hl] at hok hgv hsm m1
  rw [hfr] at m2
  rw [her] at m3
  have hsv : aSet f = .agg [.v (.int .u64 ((lo f).toNat : Int)), .v (.int .u64 ((hi f).toNat : Int))] := rfl
  have hidp : (aParts l).ids = [] := ids_parts l
  have hoi : okInts (ts.drop K ++ ts.take K ++ ts.drop K) = true := by
    simp only [okInts, Bool.and_eq_true, List.all_eq_true, decide_eq_true_eq]
    exact ⟨fun y hy => okInts_mem htr y ((hme y).1 hy), by simp; omega⟩
  have c1 : (ts.length - K) * 8 ≤ 140737488355328 := by omega
  have c2 : (ts.length - K + K) * 8 ≤ 140737488355328 := by omega
  have c3 : (ts.length - K + K + (ts.length - K)) * 8 ≤ 140737488355328 := by omega
  have c4 : ts.length * 8 ≤ 140737488355328 := by omega
  have c5 : (ts.length + (ts.length - K)) * 8 ≤ 140737488355328 := by omega
  have hAl : (ts.drop K).length = ts.length - K := List.length_drop
  have hBl : (ts.take K).length = K := by rw [List.length_take]; omega
  have hA1 : (ts.drop K).take (ts.length - K) = ts.drop K := List.take_of_length_le (by omega)
  obtain ⟨A, hA⟩ : ∃ A, ts.drop K = A := ⟨_, rfl⟩
  obtain ⟨B', hB⟩ : ∃ B', ts.take K = B' := ⟨_, rfl⟩
  rw [hA] at hAl hA1
  rw [hB] at hBl
  rw [hA, hB, List.append_assoc] at m1 m2 m3 hoi
  have hOl : (A ++ (B' ++ A)).length = ts.length + (ts.length - K) := by rw [List.length_append, List.length_append, hAl, hBl]; omega
  have hOm : (A.map fun x => [AV.v (.int .i64 x)]) ++ ((B'.map fun x => [AV.v (.int .i64 x)]) ++ (A.map fun x => [AV.v (.int .i64 x)])) = (A ++ (B' ++ A)).map fun x => [AV.v (.int .i64 x)] := by simp
  obtain ⟨O, hO⟩ : ∃ O, A ++ (B' ++ A) = O := ⟨_, rfl⟩
  rw [hO] at m1 m2 m3 hoi hOl hOm
  clear hme hK
  unfold aTh
  refine fn_sp TT_ok Try.func8 (c := _) rfl (by simp [Try.ntmps8]) (fun B hI0 hro => ?_)
  rw [Try.ntmps8]
  simp only [enumA]
  refine amStr (h := ?_)
  refine amReg PT95_ok (h := ?_)
  refine amStr (h := ?_)
  refine amReg PT95_ok (h := ?_)
  refine amStr (h := ?_)
  refine amReg PT95_ok (h := ?_)
  refine amStr (h := ?_)
  refine amDrw PT95_ok (h := ?_)
  refine amStr (h := ?_)
  refine s_weak ⟨71, [(1, aInts ts), (3, .ptr 0 0 0), (6, .v (.bool false)), (8, .ref 13 0 O.length)], [(13, ⟨3, 1, O.map fun x => [.v (.int .i64 x)]⟩), (0, ⟨24, 2, [[.v (.int .i64 N), aRows L]]⟩)], [13, 0]⟩ ?_ ?_
  · (refine weak_id rfl ?_ ?_ <;> ((try simp only [List.mem_cons, List.not_mem_nil, or_false, forall_eq_or_imp, forall_eq]); (try simp (disch := omega) [i64w, *])))
  refine s_frz (fun q => q == 13) ?_
  (refine s_eq (τ := ?_) ?_ ?_; rotate_left; (focus ((try simp only [AS.frz, List.map_cons, List.map_nil]); (try simp [frzV, frzO, frzC, List.filter]); rfl)))
  refine amStr (h := ?_)
  refine amReg PT95_ok (h := ?_)
  refine amStr (h := ?_)
  refine amReg PT95_ok (h := ?_)
  refine amStr (h := ?_)
  refine s_regionL ?_
  ((iterate 10 (((with_reducible refine spl_step TT_ok PT95_ok (id := 0) (σ' := ?_) ?_ ?_); rotate_left; (focus (simp [*]; rfl))))))
  refine spl_op (s := (aParts l, [])) rfl rfl (ok_call (f := 15) (avs := [aParts l]) (enters_ok (avs := [aParts l]) (cs := []) rfl (by kernel_rfl) rfl rfl) (by simp [idsL, hidp]) hgv) ?_
  ((iterate 1 (((with_reducible refine spl_step TT_ok PT95_ok (id := 0) (σ' := ?_) ?_ ?_); rotate_left; (focus (simp [*]; rfl))))))
  refine spl_op (s := (aParts l, [])) rfl rfl (ok_call (f := 15) (avs := [aParts l]) (enters_ok (avs := [aParts l]) (cs := []) rfl (by kernel_rfl) rfl rfl) (by simp [idsL, hidp]) hgv) ?_
  refine spl_op (s := (.v (.bool true), [])) rfl rfl (ok_call (f := 14) (avs := [aParts l, aParts l]) (enters_ok (avs := [aParts l, aParts l]) (cs := []) rfl (by kernel_rfl) rfl rfl) (by simp [idsL, hidp]) hsm) ?_
  ((iterate 5 (((with_reducible refine spl_step TT_ok PT95_ok (id := 0) (σ' := ?_) ?_ ?_); rotate_left; (focus (simp [*]; rfl))))))
  refine spl_nil ?_
  refine amStr (h := ?_)
  ((refine post_ret (av := ?_) (by first | exact .inl rfl | exact .inr rfl) (show (Try.f8).results.toList = _ from by rw [Try.results8]) ?_ ?_); rotate_left; (focus (simp [retA, retL, ret1, lk, st, ldA, AV.cell]; rfl)); (try simp [*]))
namespace partsTerms
set_option maxRecDepth 100000 in
theorem lifted (os : Os) (started : os.Started) (H : Type) (enc : TypeId × Value → H) :
    ReturnsInHanded {} Try.checked os 8 .any (Rows.partsTermsSpec.pre6 enc Try.prog Go.Proofs.Try.f8 Rows.partsTermsRow.domain false) (Rows.partsTermsSpec.post enc Try.prog Go.Proofs.Try.f8 false true false false) := by
  refine returnsInHanded_of_change (C := Try.checked) (by kernel_rfl) started (by kernel_rfl) Try.func8
    (ChangeSpec.witness6 (enc := enc) (C := Try.checked) false ⟨#[], #[.agg #[.int .i64 0, .slice none 0 0], .slice none 0 0, .int .u8 0], []⟩ 8 (by kernel_rfl) (by kernel_rfl) (by kernel_rfl) (by kernel_rfl)) ?_
  intro W base args ds gs before hval0 hW hcnd _
  have hval : ∀ (j : Nat) t v, (Go.Proofs.Try.f8).params[j]? = some t → args[j]? = some v → Value.okWide Try.prog W .any base t v := hval0
  have hW2 := hW
  obtain ⟨p, q, hA0, hV, _, _, _⟩ := hW
  have hA : DataW.TrodAll enc Try.prog W 0 (fun _ => true) true (Go.Proofs.Try.f8).params.toList args.toList ds p := hA0
  rw [Try.params8] at hA hval
  clear hA0 hval0 hcnd
  obtain ⟨rfl, _⟩ := trodVars_none hV
  obtain ⟨v0, vs0, d0, ds0, p0, q0, hargs, rfl, _, h0, r0⟩ := trodAll_cons hA
  obtain ⟨v1, vs1, d1, ds1, p1, q1, rfl, rfl, _, h1, r1⟩ := trodAll_cons r0
  obtain ⟨v2, vs2, d2, ds2, p2, q2, rfl, rfl, _, h2, r2⟩ := trodAll_cons r1
  obtain ⟨rfl, rfl, _⟩ := trodAll_nil r2
  obtain rfl : args = #[v0, v1, v2] := by cases args; simp_all
  obtain ⟨N, L, ra0, oN0, oL0⟩ := arg_th (hval 0 _ v0 rfl rfl) h0
  obtain ⟨ts, ra1, o1⟩ := arg_ints (hval 1 _ v1 rfl rfl) h1
  obtain ⟨a, ra2, l2, u2⟩ := arg_u8 (hval 2 _ v2 rfl rfl) h2
  refine law_of_pure (glob0 _) (avs := [.agg [.v (.int .i64 N), aRows L], aInts ts, .v (.int .u8 a)]) (by kernel_rfl) hW2 rfl (rec_ok (by kernel_rfl)) (tb := 4) rfl Try.underlying4 rfl rfl rfl rfl (fun i hi => ?_) (pterms_p N L ts a oN0 oL0 o1 l2 u2)
  match i, hi with
  | 0, _ => exact ra0
  | 1, _ => exact ra1
  | 2, _ => exact ra2
theorem proved : Rows.PartsTermsSaid :=
  OpenClaim.holds_of_wide 8 Go.Proofs.Try.f8 rfl rfl rfl rfl rfl rfl rfl ⟨rfl, rfl, rfl, rfl, rfl⟩ rfl rfl rfl rfl rfl (by kernel_rfl) Try.func8 (by kernel_rfl)
    (of_decide_eq_true (by kernel_rfl)) (by unfold Func.isWrapper; first | (rw [if_pos (by decide +kernel)]; kernel_rfl) | (rw [if_neg (by decide +kernel)]; exact ⟨rfl, rfl⟩))
    (fun os started H enc _ => lifted os started H enc)
end partsTerms
end Go.Proofs.Ytekeidhndlnghaa
