/- TraceReads: bytes are read, or refused, as the chapter specifies. -/
import Derived.Test.YthdjgcjpolpgdaaSgG
import Derived.Test.YthdjgcjpolpgdaaWa
import Derived.Test.YthdjgcjpolpgdaaRows
namespace Go.Proofs.Ythdjgcjpolpgdaa
set_option linter.unusedVariables false
set_option linter.unusedSimpArgs false
set_option linter.unusedSectionVars false
open Go.RowKit Go.WideShapes Go.ChangeShapes Go.ChangeAt
attribute [local simp] List.getD_cons_zero List.getD_cons_succ List.getD_nil undef gvars runL runE effA stepA dstOk wantA core lk st dl AS.ev AS.evs AS.put AS.upd updO updI nxt cPick cAlloc cBox cBuild cBuildS cLoad cStore cNil plainOf cBin cNilS isNilS nilA cUn cConvX cConvB cConv bytesOf rowB cMake cSlice slA idxA cFA cF cIA cIX cIS cI cExt cLen cApp cMM cFun cCall lenA lenM isNilM nilM cNilM cMakeM hintB cMapK cLook foundR lookR cUpd putM cDel delM findA isKeyB Instr.sameNow AS.entry AS.bound AS.callee sc1 sc2 ixOk ldA AV.flat AV.cell AV.cells Value.oneCell' fillA spl chunk zeros AS.parts AS.rows AS.shut AS.shut1 AS.shut2 AS.shutL AS.shutM AV.ids idsL idsLL eqAll bndA AV.scalar AV.scalar1 AV.isV Ef.app Ef.pk ptOf pntO wrO wr
attribute [-simp] List.getD_eq_getElem?_getD
set_option maxRecDepth 100000
attribute [local simp] bytes_idem AV.ren renL
theorem traceReads_p (b : List Int) (hb : okB b = true) (hl : b.length ≤ 9223372036854775807) : FnPure Try.prog 9 [aB b] (.v (.bool true)) := by
  have hlm : (b.map fun x => [AV.v (.int .u8 x)]).length = b.length := List.length_map _
  unfold aB
  by_cases h3 : b.length ≤ 3000
  · have g1 : ¬ ((3000 : Int) < (b.length : Int)) := by omega
    obtain ⟨hok, _⟩ := dF_ok b h3
    have hcap : b.length ≤ 140737488355328 := by omega
    obtain ⟨D, hD⟩ : ∃ D, dF b = D := ⟨_, rfl⟩
    have hcl0 : okCl [] = true := rfl
    refine fn_sp TT_ok Try.func9 (c := _) rfl (by simp [Try.ntmps9]) (fun B hI0 hro => ?_)
    rw [Try.ntmps9]
    simp only [enumA]
    refine amStr (h := ?_)
    refine amReg PT114_ok (h := ?_)
    refine amStr (h := ?_)
    refine amReg PT114_ok (h := ?_)
    refine amStr (h := ?_)
    refine s_regionL ?_
    (((with_reducible refine spl_step TT_ok PT114_ok (id := 40) (σ' := ?_) ?_ ?_); rotate_left; (focus (simp [*]; rfl))))
    ((iterate 1 (((with_reducible refine spl_step TT_ok PT114_ok (id := 0) (σ' := ?_) ?_ ?_); rotate_left; (focus (simp [*]; rfl))))))
    (((with_reducible refine spl_step TT_ok PT114_ok (id := 41) (σ' := ?_) ?_ ?_); rotate_left; (focus (simp [*]; rfl))))
    ((iterate 1 (((with_reducible refine spl_step TT_ok PT114_ok (id := 0) (σ' := ?_) ?_ ?_); rotate_left; (focus (simp [*]; rfl))))))
    refine spl_nil ?_
    refine amStr (h := ?_)
    refine s_frz (fun q => q == 41) ?_
    (refine s_eq (τ := ?_) ?_ ?_; rotate_left; (focus ((try simp only [AS.frz, List.map_cons, List.map_nil]); (try simp [frzV, frzO, frzC, List.filter]); rfl)))
    by_cases hc : (dF b).2.2 = false ∧ (dF b).1.all clG = true ∧ fullB (dF b).1 = b
    · have hR : decR b = .tup [.sl 2 ((dF b).1.map fun p => [aInts p.1, aInts p.2]), .v (.int .i64 0)] := if_pos hc
      rw [hD] at hR hok
      clear hc hD
      refine amStr (h := ?_)
      refine amReg PT114_ok (h := ?_)
      refine amStr (h := ?_)
      refine amReg PT114_ok (h := ?_)
      refine amStr (h := ?_)
      refine amReg PT114_ok (h := ?_)
      refine amStr (h := ?_)
      ((refine post_ret (av := ?_) (by first | exact .inl rfl | exact .inr rfl) (show (Try.f9).results.toList = _ from by rw [Try.results9]) ?_ ?_); rotate_left; (focus (simp [retA, retL, ret1, lk, st, ldA, AV.cell]; rfl)); (try simp [*]))
    · have hR : decR b = .tup [.v (.slice none 0 0), .v (.int .i64 5)] := if_neg hc
      clear hc hD
      refine amStr (h := ?_)
      refine amReg PT114_ok (h := ?_)
      refine amStr (h := ?_)
      refine amReg PT114_ok (h := ?_)
      refine amStr (h := ?_)
      refine amReg PT114_ok (h := ?_)
      refine amStr (h := ?_)
      ((refine post_ret (av := ?_) (by first | exact .inl rfl | exact .inr rfl) (show (Try.f9).results.toList = _ from by rw [Try.results9]) ?_ ?_); rotate_left; (focus (simp [retA, retL, ret1, lk, st, ldA, AV.cell]; rfl)); (try simp [*]))
  · have g1 : (3000 : Int) < (b.length : Int) := by omega
    refine fn_sp TT_ok Try.func9 (c := _) rfl (by simp [Try.ntmps9]) (fun B hI0 hro => ?_)
    rw [Try.ntmps9]
    simp only [enumA]
    refine amStr (h := ?_)
    refine amReg PT114_ok (h := ?_)
    refine amStr (h := ?_)
    refine amReg PT114_ok (h := ?_)
    refine amStr (h := ?_)
    refine amReg PT114_ok (h := ?_)
    refine amStr (h := ?_)
    ((refine post_ret (av := ?_) (by first | exact .inl rfl | exact .inr rfl) (show (Try.f9).results.toList = _ from by rw [Try.results9]) ?_ ?_); rotate_left; (focus (simp [retA, retL, ret1, lk, st, ldA, AV.cell]; rfl)); (try simp [*]))
namespace traceReads
set_option maxRecDepth 100000 in
theorem lifted (os : Os) (started : os.Started) (H : Type) (enc : TypeId × Value → H) :
    ReturnsInHanded {} Try.checked os 9 .any (Rows.traceReadsSpec.pre6 enc Try.prog Go.Proofs.Try.f9 Rows.traceReadsRow.domain false) (Rows.traceReadsSpec.post enc Try.prog Go.Proofs.Try.f9 false true false false) := by
  refine returnsInHanded_of_change (C := Try.checked) (by kernel_rfl) started (by kernel_rfl) Try.func9
    (ChangeSpec.witness6 (enc := enc) (C := Try.checked) false ⟨#[], #[.slice none 0 0], []⟩ 8 (by kernel_rfl) (by kernel_rfl) (by kernel_rfl) (by kernel_rfl)) ?_
  intro W base args ds gs before hval0 hW hcnd _
  have hval : ∀ (j : Nat) t v, (Go.Proofs.Try.f9).params[j]? = some t → args[j]? = some v → Value.okWide Try.prog W .any base t v := hval0
  have hW2 := hW
  obtain ⟨p, q, hA0, hV, _, _, _⟩ := hW
  have hA : DataW.TrodAll enc Try.prog W 0 (fun _ => true) true (Go.Proofs.Try.f9).params.toList args.toList ds p := hA0
  rw [Try.params9] at hA hval
  clear hA0 hval0 hcnd
  obtain ⟨rfl, _⟩ := trodVars_none hV
  obtain ⟨v0, vs0, d0, ds0, p0, q0, hargs, rfl, _, h0, r0⟩ := trodAll_cons hA
  obtain ⟨rfl, rfl, _⟩ := trodAll_nil r0
  obtain rfl : args = #[v0] := by cases args; simp_all
  obtain ⟨b, ra0, oB0, oL0⟩ := arg_bytes (hval 0 _ v0 rfl rfl) h0
  refine law_of_pure (glob0 _) (avs := [aB b]) (by kernel_rfl) hW2 rfl (rec_ok (by kernel_rfl)) (tb := 4) rfl Try.underlying4 rfl rfl rfl rfl (fun i hi => ?_) (traceReads_p b oB0 oL0)
  match i, hi with
  | 0, _ => exact ra0
theorem proved : Rows.TraceReadsSaid :=
  OpenClaim.holds_of_wide 9 Go.Proofs.Try.f9 rfl rfl rfl rfl rfl rfl rfl ⟨rfl, rfl, rfl, rfl, rfl⟩ rfl rfl rfl rfl rfl (by kernel_rfl) Try.func9 (by kernel_rfl)
    (of_decide_eq_true (by kernel_rfl)) (by unfold Func.isWrapper; first | (rw [if_pos (by decide +kernel)]; kernel_rfl) | (rw [if_neg (by decide +kernel)]; exact ⟨rfl, rfl⟩))
    (fun os started H enc _ => lifted os started H enc)
end traceReads
end Go.Proofs.Ythdjgcjpolpgdaa
