/- The law PartsWhole returns true; no condition. -/
import Derived.Test.YtekeidhndlnghaaWh16
import Derived.Test.YtekeidhndlnghaaWa
import Derived.Test.YtekeidhndlnghaaAq16
import Derived.Test.YtekeidhndlnghaaRows
namespace Go.Proofs.Ytekeidhndlnghaa
set_option linter.unusedVariables false
set_option linter.unusedSimpArgs false
set_option linter.unusedSectionVars false
open Go.ChangeShapes Go.WideShapes Go.ChangeAt Go.RowKit
attribute [local simp] List.getD_cons_zero List.getD_cons_succ List.getD_nil undef gvars runL runE effA stepA dstOk wantA core lk st dl AS.ev AS.evs AS.put AS.upd updO updI nxt cPick cAlloc cBox cBuild cBuildS cLoad cStore cNil plainOf cBin cNilS isNilS nilA cUn cConvX cConvB cConv bytesOf rowB cMake cSlice slA idxA cFA cF cIA cIX cIS cI cExt cLen cApp cMM cFun cCall lenA lenM isNilM nilM cNilM cMakeM hintB cMapK cLook foundR lookR cUpd putM cDel delM findA isKeyB Instr.sameNow AS.entry AS.bound AS.callee sc1 sc2 ixOk ldA AV.flat AV.cell AV.cells Value.oneCell' fillA spl chunk zeros AS.parts AS.rows AS.shut AS.shut1 AS.shut2 AS.shutL AS.shutM AV.ids idsL idsLL eqAll bndA AV.scalar AV.scalar1 AV.isV Ef.app Ef.pk ptOf pntO wrO wr
attribute [-simp] List.getD_eq_getElem?_getD
set_option maxRecDepth 100000
def l97 : List (FuncId × (List AV → Option (AV × Bool))) :=
  (10, g_few16) :: (11, g_works6) :: (12, g_pSplit6) :: (17, g_pAlone6) :: l1
theorem l97_ok : ∀ p ∈ l97, EntOk Try.prog p.1 p.2 := ent_cons e_few16 (ent_cons e_works6 (ent_cons e_pSplit6 (ent_cons e_pAlone6 (l1_ok))))
def PT97 : PTab := tab l97
theorem PT97_ok : PTok Try.prog PT97 := tab_ok l97_ok
@[simp] theorem PT97_few16 : PT97 10 = g_few16 := rfl
@[simp] theorem PT97_works6 : PT97 11 = g_works6 := rfl
@[simp] theorem PT97_pSplit6 : PT97 12 = g_pSplit6 := rfl
@[simp] theorem PT97_pAlone6 : PT97 17 = g_pAlone6 := rfl
set_option maxHeartbeats 8000000 in
theorem pwhole_ok (N : Int) (L : List (List Int)) (ts : List Int) (hN : okI N = true) (hL : okLens L = true) (ht : okIL ts = true) (hv : validT N L ts = true) (hf : fewW L ts = true) : FnPure Try.prog 7 [aTh N L, aInts ts] (.v (.bool true)) := by
  obtain ⟨h1, h2⟩ := fewW_len hf
  have htr := okInts_il ht (by omega)
  obtain ⟨_, n1, _, hl3⟩ := checkT_ok (valid_check hv)
  have hLr : okRows L = true := okRows_lens hL (by omega) fun c hc => by have := (hl3 c hc).1; omega
  have hok := okParts_spl N L ts
  have e3 : splEr N L ts = 0 := if_pos hv
  have hpt := Lib.hid (fun p (hp : p ∈ splL N L ts) => whole_part hv hp)
  obtain ⟨l, hl⟩ : ∃ l, splL N L ts = l := ⟨_, rfl⟩
  obtain ⟨f, hfr⟩ : ∃ f, splF N L ts = f := ⟨_, rfl⟩
  rw [hl] at hok hpt
  have hln := okParts_len hok
  have hsv : aSet f = .agg [.v (.int .u64 ((lo f).toNat : Int)), .v (.int .u64 ((hi f).toNat : Int))] := rfl
  have hap : aParts l = .sl 3 (l.map partRow) := rfl
  have hidl := idsLL_parts l
  have hv2 := Lib.hid hv
  clear hv hl3
  unfold aTh
  refine fn_sp TT_ok Try.func7 (c := _) rfl (by simp [Try.ntmps7]) (fun B hI0 hro => ?_)
  rw [Try.ntmps7]
  simp only [enumA]
  refine amGo PT97_ok (h := ?_)
  refine s_loop (J := fun i : {i : Nat // i ≤ l.length} => ⟨89, [(1, aInts ts), (2, .ptr 0 0 0), (4, .v (.bool false)), (5, .sl 3 (l.map partRow)), (8, .v (.int .i64 (i.1 : Int)))], [(0, ⟨24, 2, [[.v (.int .i64 N), aRows L]]⟩)], [0]⟩) (μ := fun i => l.length - i.1) ⟨0, Nat.zero_le _⟩ ?_ (fun ⟨i, hie⟩ => ?_)
  · (refine weak_id rfl ?_ ?_ <;> ((try simp only [List.mem_cons, List.not_mem_nil, or_false, forall_eq_or_imp, forall_eq]); (try simp (disch := omega) [i64w, *])))
  clear hsv hap
  refine amStr (h := ?_)
  refine amReg PT97_ok (h := ?_)
  refine amStr (h := ?_)
  (focus ((with_reducible refine sp_cond (b := ?_) ?_ (fun hc => ?_) (fun hc => ?_)); rotate_left; (focus (first | rfl | (simp [lk, AS.ev]; rfl))); all_goals (try simp at hc)))
  · have hii := hc
    clear hc
    have hrow := parts_row hii
    have hpc := okParts_at hok i
    have hpp : l.getD i (0#128, []) ∈ l := by
      have : l.getD i (0#128, []) = l[i] := by simp [List.getD, hii]
      rw [this]; exact List.getElem_mem hii
    obtain ⟨g1, g2, g3, q, g4, g5, g6⟩ := hpt.out _ hpp
    obtain ⟨p, hp⟩ : ∃ p, l.getD i (0#128, []) = p := ⟨_, rfl⟩
    rw [hp] at hrow hpc g1 g2 g3 g4 g5 g6
    clear hp hpp
    obtain ⟨ps, cs⟩ := p
    obtain ⟨qs, qc⟩ := q
    dsimp only at hrow hpc g1 g2 g3 g4 g5 g6
    subst g5
    have hrA : rAloneA N L ts cs = .tup [.agg [.v (.int .i64 N), aRows (alnL L ts cs)], .v (.int .i64 0)] := by unfold rAloneA; rw [if_pos ⟨hv2.out, g1⟩]; rfl
    have hXl : okLens (alnL L ts cs) = true := by
      obtain ⟨_, _, x1, x2⟩ := checkT_ok (valid_check g2)
      have hpcl := okInts_len hpc
      simp only [okLens, Bool.and_eq_true, List.all_eq_true, decide_eq_true_eq]
      refine ⟨fun c hc => ?_, by rw [alnL_len]; omega⟩
      have hcl := (x2 c hc).1
      simp only [okIL, Bool.and_eq_true, List.all_eq_true, decide_eq_true_eq]
      refine ⟨fun x hx => ?_, by omega⟩
      have := litOk_range ((x2 c hc).2 x hx)
      exact okI_iff.2 ⟨by omega, by omega⟩
    have e5 : splEr N (alnL L ts cs) [] = 0 := if_pos g2
    obtain ⟨X, hX⟩ : ∃ X, alnL L ts cs = X := ⟨_, rfl⟩
    rw [hX] at hrA hXl e5 g2 g4
    obtain ⟨f2, hf2⟩ : ∃ f2, splF N X [] = f2 := ⟨_, rfl⟩
    have hsv2 : aSet f2 = .agg [.v (.int .u64 ((lo f2).toNat : Int)), .v (.int .u64 ((hi f2).toNat : Int))] := rfl
    have hap2 : aParts [(qs, qc)] = .sl 3 [[.v (.int .u64 ((lo qs).toNat : Int)), .v (.int .u64 ((hi qs).toNat : Int)), aInts qc]] := rfl
    have hn0 : toInts (.v (.slice none 0 0)) = some [] := rfl
    have hoe : okInts [] = true := rfl
    have hse : ∀ (x y : Int), True := fun _ _ => trivial
    have hwi : IntKind.i64.wrap ((i : Int) + 1) = (i : Int) + 1 := i64s i (by omega)
    clear hX g1 g2 hse
    refine amStr (h := ?_)
    (focus ((with_reducible refine s_draw2 (q := ?_) (es := ?_) (σ' := ?_) prog_mixed TT_ok PT97_ok ?_ ?_ ?_ ?_); rotate_left 3; (focus (first | (simp; exact Eq.refl _) | exact Eq.refl _)); (focus ((repeat (((with_reducible refine runE_cons (e := ?_) (σ1 := ?_) (es := ?_) ?_ ?_ ?_); rotate_left 3; (focus (simp [*]; exact Eq.refl _)); (focus (simp; exact Eq.refl _))))); (exact runE_nil))); (focus (simp [fpA, fpF, isFn, fpo, topIds, lightS, light, Op.operands, Call.operands]; try kernel_rfl))))
    refine amStr (h := ?_)
    refine amReg PT97_ok (h := ?_)
    refine amStr (h := ?_)
    refine amDrw PT97_ok (h := ?_)
    refine amStr (h := ?_)
    refine amReg PT97_ok (h := ?_)
    refine k_lp (⟨i + 1, by omega⟩ : {i : Nat // i ≤ l.length}) (by first | omega | (dsimp only; omega)) ?_
    (refine weak_id rfl ?_ ?_ <;> ((try simp only [List.mem_cons, List.not_mem_nil, or_false, forall_eq_or_imp, forall_eq]); (try simp (disch := omega) [i64w, *])))
  · obtain rfl : i = l.length := by omega
    clear hc
    refine amGo PT97_ok (h := ?_)
    ((refine post_ret (av := ?_) (by first | exact .inl rfl | exact .inr rfl) (show (Try.f7).results.toList = _ from by rw [Try.results7]) ?_ ?_); rotate_left; (focus (simp [retA, retL, ret1, lk, st, ldA, AV.cell]; rfl)); (try simp [*]))
theorem pwhole_p (N : Int) (L : List (List Int)) (ts : List Int) (hN : okI N = true) (hL : okLens L = true) (ht : okIL ts = true) : FnPure Try.prog 7 [aTh N L, aInts ts] (.v (.bool true)) := by
  cases hf : fewW L ts
  · unfold aTh
    refine fn_sp TT_ok Try.func7 (c := _) rfl (by simp [Try.ntmps7]) (fun B hI0 hro => ?_)
    rw [Try.ntmps7]
    simp only [enumA]
    refine amGo PT97_ok (h := ?_)
    ((refine post_ret (av := ?_) (by first | exact .inl rfl | exact .inr rfl) (show (Try.f7).results.toList = _ from by rw [Try.results7]) ?_ ?_); rotate_left; (focus (simp [retA, retL, ret1, lk, st, ldA, AV.cell]; rfl)); (try simp [*]))
  by_cases hv : validT N L ts = true
  · exact pwhole_ok N L ts hN hL ht hv hf
  · obtain ⟨h1, h2⟩ := fewW_len hf
    have htr := okInts_il ht (by omega)
    have e1 : splL N L ts = [] := if_neg hv
    have e2 : splF N L ts = 0#128 := if_neg hv
    have e3 : splEr N L ts = 1 := if_neg hv
    have hp0 : aParts [] = .sl 3 [] := rfl
    have hs0 : aSet 0#128 = .agg [.v (.int .u64 0), .v (.int .u64 0)] := rfl
    clear hv
    unfold aTh
    refine fn_sp TT_ok Try.func7 (c := _) rfl (by simp [Try.ntmps7]) (fun B hI0 hro => ?_)
    rw [Try.ntmps7]
    simp only [enumA]
    refine amGo PT97_ok (h := ?_)
    ((refine post_ret (av := ?_) (by first | exact .inl rfl | exact .inr rfl) (show (Try.f7).results.toList = _ from by rw [Try.results7]) ?_ ?_); rotate_left; (focus (simp [retA, retL, ret1, lk, st, ldA, AV.cell]; rfl)); (try simp [*]))
namespace partsWhole
set_option maxRecDepth 100000 in
theorem lifted (os : Os) (started : os.Started) (H : Type) (enc : TypeId × Value → H) :
    ReturnsInHanded {} Try.checked os 7 .any (Rows.partsWholeSpec.pre6 enc Try.prog Go.Proofs.Try.f7 Rows.partsWholeRow.domain false) (Rows.partsWholeSpec.post enc Try.prog Go.Proofs.Try.f7 false true false false) := by
  refine returnsInHanded_of_change (C := Try.checked) (by kernel_rfl) started (by kernel_rfl) Try.func7
    (ChangeSpec.witness6 (enc := enc) (C := Try.checked) false ⟨#[], #[.agg #[.int .i64 0, .slice none 0 0], .slice none 0 0], []⟩ 8 (by kernel_rfl) (by kernel_rfl) (by kernel_rfl) (by kernel_rfl)) ?_
  intro W base args ds gs before hval0 hW hcnd _
  have hval : ∀ (j : Nat) t v, (Go.Proofs.Try.f7).params[j]? = some t → args[j]? = some v → Value.okWide Try.prog W .any base t v := hval0
  have hW2 := hW
  obtain ⟨p, q, hA0, hV, _, _, _⟩ := hW
  have hA : DataW.TrodAll enc Try.prog W 0 (fun _ => true) true (Go.Proofs.Try.f7).params.toList args.toList ds p := hA0
  rw [Try.params7] at hA hval
  clear hA0 hval0 hcnd
  obtain ⟨rfl, _⟩ := trodVars_none hV
  obtain ⟨v0, vs0, d0, ds0, p0, q0, hargs, rfl, _, h0, r0⟩ := trodAll_cons hA
  obtain ⟨v1, vs1, d1, ds1, p1, q1, rfl, rfl, _, h1, r1⟩ := trodAll_cons r0
  obtain ⟨rfl, rfl, _⟩ := trodAll_nil r1
  obtain rfl : args = #[v0, v1] := by cases args; simp_all
  obtain ⟨N, L, ra0, oN0, oL0⟩ := arg_th (hval 0 _ v0 rfl rfl) h0
  obtain ⟨ts, ra1, o1⟩ := arg_ints (hval 1 _ v1 rfl rfl) h1
  refine law_of_pure (glob0 _) (avs := [.agg [.v (.int .i64 N), aRows L], aInts ts]) (by kernel_rfl) hW2 rfl (rec_ok (by kernel_rfl)) (tb := 4) rfl Try.underlying4 rfl rfl rfl rfl (fun i hi => ?_) (pwhole_p N L ts oN0 oL0 o1)
  match i, hi with
  | 0, _ => exact ra0
  | 1, _ => exact ra1
theorem proved : Rows.PartsWholeSaid :=
  OpenClaim.holds_of_wide 7 Go.Proofs.Try.f7 rfl rfl rfl rfl rfl rfl rfl ⟨rfl, rfl, rfl, rfl, rfl⟩ rfl rfl rfl rfl rfl (by kernel_rfl) Try.func7 (by kernel_rfl)
    (of_decide_eq_true (by kernel_rfl)) (by unfold Func.isWrapper; first | (rw [if_pos (by decide +kernel)]; kernel_rfl) | (rw [if_neg (by decide +kernel)]; exact ⟨rfl, rfl⟩))
    (fun os started H enc _ => lifted os started H enc)
end partsWhole
end Go.Proofs.Ytekeidhndlnghaa
