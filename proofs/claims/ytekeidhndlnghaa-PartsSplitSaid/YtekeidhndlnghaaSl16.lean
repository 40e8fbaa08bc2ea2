/- The law PartsSplit returns true; no condition. -/
import Derived.Test.YtekeidhndlnghaaSyG
import Derived.Test.YtekeidhndlnghaaWa
import Derived.Test.YtekeidhndlnghaaRows
namespace Go.Proofs.Ytekeidhndlnghaa
set_option linter.unusedVariables false
set_option linter.unusedSimpArgs false
set_option linter.unusedSectionVars false
open Go.ChangeShapes Go.WideShapes Go.ChangeAt Go.RowKit
attribute [local simp] List.getD_cons_zero List.getD_cons_succ List.getD_nil undef gvars runL runE effA stepA dstOk wantA core lk st dl AS.ev AS.evs AS.put AS.upd updO updI nxt cPick cAlloc cBox cBuild cBuildS cLoad cStore cNil plainOf cBin cNilS isNilS nilA cUn cConvX cConvB cConv bytesOf rowB cMake cSlice slA idxA cFA cF cIA cIX cIS cI cExt cLen cApp cMM cFun cCall lenA lenM isNilM nilM cNilM cMakeM hintB cMapK cLook foundR lookR cUpd putM cDel delM findA isKeyB Instr.sameNow AS.entry AS.bound AS.callee sc1 sc2 ixOk ldA AV.flat AV.cell AV.cells Value.oneCell' fillA spl chunk zeros AS.parts AS.rows AS.shut AS.shut1 AS.shut2 AS.shutL AS.shutM AV.ids idsL idsLL eqAll bndA AV.scalar AV.scalar1 AV.isV Ef.app Ef.pk ptOf pntO wrO wr
attribute [-simp] List.getD_eq_getElem?_getD
set_option maxRecDepth 100000
set_option maxHeartbeats 4000000 in
theorem psplit_p (N : Int) (L : List (List Int)) (ts : List Int) (hN : okI N = true) (hL : okLens L = true) (ht : okIL ts = true) : FnPure Try.prog 3 [aTh N L, aInts ts] (.v (.bool true)) := by
  cases hf : fewW L ts
  · unfold aTh
    refine fn_sp TT_ok Try.func3 (c := _) rfl (by simp [Try.ntmps3]) (fun B hI0 hro => ?_)
    rw [Try.ntmps3]
    simp only [enumA]
    refine amGo PT95_ok (h := ?_)
    ((refine post_ret (av := ?_) (by first | exact .inl rfl | exact .inr rfl) (show (Try.f3).results.toList = _ from by rw [Try.results3]) ?_ ?_); rotate_left; (focus (simp [retA, retL, ret1, lk, st, ldA, AV.cell]; rfl)); (try simp [*]))
  obtain ⟨h1, h2⟩ := fewW_len hf
  have htr := okInts_il ht (by omega)
  have hok := okParts_spl N L ts
  have c1 : ts.length * 8 ≤ 140737488355328 := by omega
  have hgv := given_p _ hok
  have hsm := same_parts _ hok
  obtain ⟨l, hl⟩ : ∃ l, splL N L ts = l := ⟨_, rfl⟩
  obtain ⟨f, hfr⟩ : ∃ f, splF N L ts = f := ⟨_, rfl⟩
  obtain ⟨e, her⟩ : ∃ e, splEr N L ts = e := ⟨_, rfl⟩
  rw [hl] at hok hgv hsm
  have hsv : aSet f = .agg [.v (.int .u64 ((lo f).toNat : Int)), .v (.int .u64 ((hi f).toNat : Int))] := rfl
  have hidp : (aParts l).ids = [] := ids_parts l
  unfold aTh
  refine fn_sp TT_ok Try.func3 (c := _) rfl (by simp [Try.ntmps3]) (fun B hI0 hro => ?_)
  rw [Try.ntmps3]
  simp only [enumA]
  refine amStr (h := ?_)
  refine amReg PT95_ok (h := ?_)
  refine amStr (h := ?_)
  refine amReg PT95_ok (h := ?_)
  refine amStr (h := ?_)
  refine amReg PT95_ok (h := ?_)
  refine amStr (h := ?_)
  refine amReg PT95_ok (h := ?_)
  refine amStr (h := ?_)
  refine amReg PT95_ok (h := ?_)
  refine amStr (h := ?_)
  refine s_regionL ?_
  ((iterate 10 (((with_reducible refine spl_step TT_ok PT95_ok (id := 0) (σ' := ?_) ?_ ?_); rotate_left; (focus (simp [*]; rfl))))))
  refine spl_op (s := (aParts l, [])) rfl rfl (ok_call (f := 15) (avs := [aParts l]) (enters_ok (avs := [aParts l]) (cs := []) rfl (by kernel_rfl) rfl rfl) (by simp [idsL, hidp]) hgv) ?_
  ((iterate 1 (((with_reducible refine spl_step TT_ok PT95_ok (id := 0) (σ' := ?_) ?_ ?_); rotate_left; (focus (simp [*]; rfl))))))
  refine spl_op (s := (.v (.bool true), [])) rfl rfl (ok_call (f := 14) (avs := [aParts l, aParts l]) (enters_ok (avs := [aParts l, aParts l]) (cs := []) rfl (by kernel_rfl) rfl rfl) (by simp [idsL, hidp]) hsm) ?_
  ((iterate 10 (((with_reducible refine spl_step TT_ok PT95_ok (id := 0) (σ' := ?_) ?_ ?_); rotate_left; (focus (simp [*]; rfl))))))
  refine spl_nil ?_
  refine amStr (h := ?_)
  ((refine post_ret (av := ?_) (by first | exact .inl rfl | exact .inr rfl) (show (Try.f3).results.toList = _ from by rw [Try.results3]) ?_ ?_); rotate_left; (focus (simp [retA, retL, ret1, lk, st, ldA, AV.cell]; rfl)); (try simp [*]))
namespace partsSplit
set_option maxRecDepth 100000 in
theorem lifted (os : Os) (started : os.Started) (H : Type) (enc : TypeId × Value → H) :
    ReturnsInHanded {} Try.checked os 3 .any (Rows.partsSplitSpec.pre6 enc Try.prog Go.Proofs.Try.f3 Rows.partsSplitRow.domain false) (Rows.partsSplitSpec.post enc Try.prog Go.Proofs.Try.f3 false true false false) := by
  refine returnsInHanded_of_change (C := Try.checked) (by kernel_rfl) started (by kernel_rfl) Try.func3
    (ChangeSpec.witness6 (enc := enc) (C := Try.checked) false ⟨#[], #[.agg #[.int .i64 0, .slice none 0 0], .slice none 0 0], []⟩ 8 (by kernel_rfl) (by kernel_rfl) (by kernel_rfl) (by kernel_rfl)) ?_
  intro W base args ds gs before hval0 hW hcnd _
  have hval : ∀ (j : Nat) t v, (Go.Proofs.Try.f3).params[j]? = some t → args[j]? = some v → Value.okWide Try.prog W .any base t v := hval0
  have hW2 := hW
  obtain ⟨p, q, hA0, hV, _, _, _⟩ := hW
  have hA : DataW.TrodAll enc Try.prog W 0 (fun _ => true) true (Go.Proofs.Try.f3).params.toList args.toList ds p := hA0
  rw [Try.params3] at hA hval
  clear hA0 hval0 hcnd
  obtain ⟨rfl, _⟩ := trodVars_none hV
  obtain ⟨v0, vs0, d0, ds0, p0, q0, hargs, rfl, _, h0, r0⟩ := trodAll_cons hA
  obtain ⟨v1, vs1, d1, ds1, p1, q1, rfl, rfl, _, h1, r1⟩ := trodAll_cons r0
  obtain ⟨rfl, rfl, _⟩ := trodAll_nil r1
  obtain rfl : args = #[v0, v1] := by cases args; simp_all
  obtain ⟨N, L, ra0, oN0, oL0⟩ := arg_th (hval 0 _ v0 rfl rfl) h0
  obtain ⟨ts, ra1, o1⟩ := arg_ints (hval 1 _ v1 rfl rfl) h1
  refine law_of_pure (glob0 _) (avs := [.agg [.v (.int .i64 N), aRows L], aInts ts]) (by kernel_rfl) hW2 rfl (rec_ok (by kernel_rfl)) (tb := 4) rfl Try.underlying4 rfl rfl rfl rfl (fun i hi => ?_) (psplit_p N L ts oN0 oL0 o1)
  match i, hi with
  | 0, _ => exact ra0
  | 1, _ => exact ra1
theorem proved : Rows.PartsSplitSaid :=
  OpenClaim.holds_of_wide 3 Go.Proofs.Try.f3 rfl rfl rfl rfl rfl rfl rfl ⟨rfl, rfl, rfl, rfl, rfl⟩ rfl rfl rfl rfl rfl (by kernel_rfl) Try.func3 (by kernel_rfl)
    (of_decide_eq_true (by kernel_rfl)) (by unfold Func.isWrapper; first | (rw [if_pos (by decide +kernel)]; kernel_rfl) | (rw [if_neg (by decide +kernel)]; exact ⟨rfl, rfl⟩))
    (fun os started H enc _ => lifted os started H enc)
end partsSplit
end Go.Proofs.Ytekeidhndlnghaa
