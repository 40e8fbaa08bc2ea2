/- TraceWrites: the bytes of claims are those of the chapter. -/
import Derived.Test.YthdjgcjpolpgdaaLg22
import Derived.Test.YthdjgcjpolpgdaaWa
import Derived.Test.YthdjgcjpolpgdaaRows
namespace Go.Proofs.Ythdjgcjpolpgdaa
set_option linter.unusedVariables false
set_option linter.unusedSimpArgs false
set_option linter.unusedSectionVars false
open Go.RowKit Go.WideShapes Go.ChangeShapes Go.ChangeAt
attribute [local simp] List.getD_cons_zero List.getD_cons_succ List.getD_nil undef gvars runL runE effA stepA dstOk wantA core lk st dl AS.ev AS.evs AS.put AS.upd updO updI nxt cPick cAlloc cBox cBuild cBuildS cLoad cStore cNil plainOf cBin cNilS isNilS nilA cUn cConvX cConvB cConv bytesOf rowB cMake cSlice slA idxA cFA cF cIA cIX cIS cI cExt cLen cApp cMM cFun cCall lenA lenM isNilM nilM cNilM cMakeM hintB cMapK cLook foundR lookR cUpd putM cDel delM findA isKeyB Instr.sameNow AS.entry AS.bound AS.callee sc1 sc2 ixOk ldA AV.flat AV.cell AV.cells Value.oneCell' fillA spl chunk zeros AS.parts AS.rows AS.shut AS.shut1 AS.shut2 AS.shutL AS.shutM AV.ids idsL idsLL eqAll bndA AV.scalar AV.scalar1 AV.isV Ef.app Ef.pk ptOf pntO wrO wr
attribute [-simp] List.getD_eq_getElem?_getD
set_option maxRecDepth 100000
theorem encF_few {l : List Cl} (h : l.length ≤ 60) : encF l = if l.all clG = false then .tup [.v (.slice none 0 0), .v (.int .i64 1)] else .tup [aB (fullB l), .v (.int .i64 0)] := by
  unfold encF
  rw [if_neg (by omega)]
  by_cases hf : l.all clG = false
  · rw [if_pos hf, if_pos hf]
  · rw [if_neg hf, if_neg hf, if_neg]
    have hf2 : l.all clG = true := by simpa using hf
    have h2 := flat_len clB 40000 l (fun c hc => clB_len (List.all_eq_true.1 hf2 c hc))
    have h3 := numB_len9 (n := l.length) (by omega)
    have hmax : maxB = 16777216 := rfl
    simp only [fullB, List.length_append]
    omega
theorem okLC_at {l : List Cl} (h : okLC l = true) {k : Nat} (hk : k < l.length) : okIL (l.getD k ([], [])).1 = true ∧ okIL (l.getD k ([], [])).2 = true := by
  unfold okLC at h
  rw [Bool.and_eq_true] at h
  have := List.all_eq_true.1 h.1 _ (cl_mem hk)
  rwa [Bool.and_eq_true] at this
theorem okCl_of {l : List Cl} (h : okLC l = true) (hn : l.length ≤ 60) (hl : ∀ j, j < l.length → lightC (l.getD j ([], [])).1 (l.getD j ([], [])).2 = true) : okCl l = true := by
  unfold okCl
  rw [Bool.and_eq_true, decide_eq_true_eq]
  refine ⟨by omega, List.all_eq_true.2 fun p hp => ?_⟩
  obtain ⟨j, hj, rfl⟩ := List.getElem_of_mem hp
  have e : l.getD j ([], []) = l[j] := by simp [List.getD, hj]
  obtain ⟨h1, h2⟩ := okLC_at h hj
  have h3 := hl j hj
  rw [e] at h1 h2 h3
  obtain ⟨g1, g2, _, _⟩ := lightC_ok h1 h2 h3
  rw [g1, g2]; rfl
theorem bytes_idem (b : List Int) : bytesOf (b.map fun x => [AV.v (.int .u8 x)]) = some b := by
  induction b with
  | nil => rfl
  | cons x b ih => simp [bytesOf, rowB, ih]
attribute [local simp] aB bytes_idem
set_option maxHeartbeats 2000000 in
theorem traceWrites_p (l : List Cl) (hl : okLC l = true) : FnPure Try.prog 4 [aCls l] (.v (.bool true)) := by
  have hlen : l.length ≤ 9223372036854775807 := by
    unfold okLC at hl
    rw [Bool.and_eq_true, decide_eq_true_eq] at hl
    exact hl.2
  unfold aCls
  by_cases h60 : l.length ≤ 60
  · have g1 : ¬ ((60 : Int) < (l.length : Int)) := by omega
    refine fn_sp TT_ok Try.func4 (c := _) rfl (by simp [Try.ntmps4]) (fun B hI0 hro => ?_)
    rw [Try.ntmps4]
    simp only [enumA]
    refine amStr (h := ?_)
    refine amReg PT113_ok (h := ?_)
    refine amStr (h := ?_)
    refine amReg PT113_ok (h := ?_)
    refine amStr (h := ?_)
    refine amReg PT113_ok (h := ?_)
    refine amStr (h := ?_)
    refine s_loop (J := fun i : {k : Nat // k ≤ l.length ∧ ∀ j, j < k → lightC (l.getD j ([], [])).1 (l.getD j ([], [])).2 = true} => ⟨55, [(0, .sl 2 (l.map fun p => [aInts p.1, aInts p.2])), (14, .sl 2 (l.map fun p => [aInts p.1, aInts p.2])), (15, .v (.int .i64 (l.length : Int))), (16, .v (.int .i64 (i.1 : Int)))], [], []⟩) (μ := fun i => l.length - i.1) ⟨0, Nat.zero_le _, fun j hj => by omega⟩ ?_ (fun ⟨k, hk, he⟩ => ?_)
    · (refine weak_id rfl ?_ ?_ <;> ((try simp only [List.mem_cons, List.not_mem_nil, or_false, forall_eq_or_imp, forall_eq]); (try simp (disch := omega) [i64w, *])))
    refine amStr (h := ?_)
    refine amReg PT113_ok (h := ?_)
    refine amStr (h := ?_)
    (focus ((with_reducible refine sp_cond (b := ?_) ?_ (fun hc => ?_) (fun hc => ?_)); rotate_left; (focus (first | rfl | (simp [lk, AS.ev]; rfl))); all_goals (try simp at hc)))
    · have hkk := hc
      clear hc
      obtain ⟨o1, o2⟩ := okLC_at hl hkk
      have wk : IntKind.i64.wrap ((k : Int) + 1) = (k : Int) + 1 := i64s k (by omega)
      have hlt : lightC (l.getD k ([], [])).1 (l.getD k ([], [])).2 = true → ∀ j, j < k + 1 → lightC (l.getD j ([], [])).1 (l.getD j ([], [])).2 = true := fun h j hj => by
        by_cases e : j < k
        · exact he j e
        · obtain rfl : j = k := by omega
          exact h
      obtain ⟨ts, cs, hp⟩ : ∃ ts cs, l.getD k ([], []) = (ts, cs) := ⟨_, _, rfl⟩
      rw [hp] at o1 o2 hlt
      dsimp only at o1 o2 hlt
      cases h3 : lightC ts cs
      · clear hlt
        refine amStr (h := ?_)
        refine amReg PT113_ok (h := ?_)
        refine amStr (h := ?_)
        refine amReg PT113_ok (h := ?_)
        refine amStr (h := ?_)
        refine amReg PT113_ok (h := ?_)
        refine amStr (h := ?_)
        ((refine post_ret (av := ?_) (by first | exact .inl rfl | exact .inr rfl) (show (Try.f4).results.toList = _ from by rw [Try.results4]) ?_ ?_); rotate_left; (focus (simp [retA, retL, ret1, lk, st, ldA, AV.cell]; rfl)); (try simp [*]))
      · have he2 := hlt h3
        clear hlt
        refine amStr (h := ?_)
        refine amReg PT113_ok (h := ?_)
        refine amStr (h := ?_)
        refine amReg PT113_ok (h := ?_)
        refine amStr (h := ?_)
        refine amReg PT113_ok (h := ?_)
        refine amStr (h := ?_)
        refine k_lp (⟨k + 1, by omega, he2⟩ : {k : Nat // k ≤ l.length ∧ ∀ j, j < k → lightC (l.getD j ([], [])).1 (l.getD j ([], [])).2 = true}) (by first | (dsimp only; omega) | omega) ?_
        (refine weak_id rfl ?_ ?_ <;> ((try simp only [List.mem_cons, List.not_mem_nil, or_false, forall_eq_or_imp, forall_eq]); (try simp (disch := omega) [i64w, *])))
    · obtain rfl : k = l.length := by omega
      clear hc
      have hok := okCl_of hl h60 he
      have hE := encF_few h60
      have hcls : aCls l = .sl 2 (l.map fun p => [aInts p.1, aInts p.2]) := rfl
      by_cases hf : l.all clG = false
      · rw [if_pos hf] at hE
        refine amStr (h := ?_)
        refine amReg PT113_ok (h := ?_)
        refine amStr (h := ?_)
        refine amReg PT113_ok (h := ?_)
        refine amStr (h := ?_)
        refine amReg PT113_ok (h := ?_)
        refine amStr (h := ?_)
        refine amReg PT113_ok (h := ?_)
        refine amStr (h := ?_)
        ((refine post_ret (av := ?_) (by first | exact .inl rfl | exact .inr rfl) (show (Try.f4).results.toList = _ from by rw [Try.results4]) ?_ ?_); rotate_left; (focus (simp [retA, retL, ret1, lk, st, ldA, AV.cell]; rfl)); (try simp [*]))
      · rw [if_neg hf] at hE
        refine amStr (h := ?_)
        refine amReg PT113_ok (h := ?_)
        refine amStr (h := ?_)
        refine amReg PT113_ok (h := ?_)
        refine amStr (h := ?_)
        refine amReg PT113_ok (h := ?_)
        refine amStr (h := ?_)
        refine amReg PT113_ok (h := ?_)
        refine amStr (h := ?_)
        ((refine post_ret (av := ?_) (by first | exact .inl rfl | exact .inr rfl) (show (Try.f4).results.toList = _ from by rw [Try.results4]) ?_ ?_); rotate_left; (focus (simp [retA, retL, ret1, lk, st, ldA, AV.cell]; rfl)); (try simp [*]))
  · have g1 : (60 : Int) < (l.length : Int) := by omega
    refine fn_sp TT_ok Try.func4 (c := _) rfl (by simp [Try.ntmps4]) (fun B hI0 hro => ?_)
    rw [Try.ntmps4]
    simp only [enumA]
    refine amStr (h := ?_)
    refine amReg PT113_ok (h := ?_)
    refine amStr (h := ?_)
    refine amReg PT113_ok (h := ?_)
    refine amStr (h := ?_)
    refine amReg PT113_ok (h := ?_)
    refine amStr (h := ?_)
    ((refine post_ret (av := ?_) (by first | exact .inl rfl | exact .inr rfl) (show (Try.f4).results.toList = _ from by rw [Try.results4]) ?_ ?_); rotate_left; (focus (simp [retA, retL, ret1, lk, st, ldA, AV.cell]; rfl)); (try simp [*]))
namespace traceWrites
set_option maxRecDepth 100000 in
theorem lifted (os : Os) (started : os.Started) (H : Type) (enc : TypeId × Value → H) :
    ReturnsInHanded {} Try.checked os 4 .any (Rows.traceWritesSpec.pre6 enc Try.prog Go.Proofs.Try.f4 Rows.traceWritesRow.domain false) (Rows.traceWritesSpec.post enc Try.prog Go.Proofs.Try.f4 false true false false) := by
  refine returnsInHanded_of_change (C := Try.checked) (by kernel_rfl) started (by kernel_rfl) Try.func4
    (ChangeSpec.witness6 (enc := enc) (C := Try.checked) false ⟨#[], #[.slice none 0 0], []⟩ 8 (by kernel_rfl) (by kernel_rfl) (by kernel_rfl) (by kernel_rfl)) ?_
  intro W base args ds gs before hval0 hW hcnd _
  have hval : ∀ (j : Nat) t v, (Go.Proofs.Try.f4).params[j]? = some t → args[j]? = some v → Value.okWide Try.prog W .any base t v := hval0
  have hW2 := hW
  obtain ⟨p, q, hA0, hV, _, _, _⟩ := hW
  have hA : DataW.TrodAll enc Try.prog W 0 (fun _ => true) true (Go.Proofs.Try.f4).params.toList args.toList ds p := hA0
  rw [Try.params4] at hA hval
  clear hA0 hval0 hcnd
  obtain ⟨rfl, _⟩ := trodVars_none hV
  obtain ⟨v0, vs0, d0, ds0, p0, q0, hargs, rfl, _, h0, r0⟩ := trodAll_cons hA
  obtain ⟨rfl, rfl, _⟩ := trodAll_nil r0
  obtain rfl : args = #[v0] := by cases args; simp_all
  obtain ⟨l, ra0, oL0⟩ := arg_cls (hval 0 _ v0 rfl rfl) h0
  refine law_of_pure (glob0 _) (avs := [aCls l]) (by kernel_rfl) hW2 rfl (rec_ok (by kernel_rfl)) (tb := 4) rfl Try.underlying4 rfl rfl rfl rfl (fun i hi => ?_) (traceWrites_p l oL0)
  match i, hi with
  | 0, _ => exact ra0
theorem proved : Rows.TraceWritesSaid :=
  OpenClaim.holds_of_wide 4 Go.Proofs.Try.f4 rfl rfl rfl rfl rfl rfl rfl ⟨rfl, rfl, rfl, rfl, rfl⟩ rfl rfl rfl rfl rfl (by kernel_rfl) Try.func4 (by kernel_rfl)
    (of_decide_eq_true (by kernel_rfl)) (by unfold Func.isWrapper; first | (rw [if_pos (by decide +kernel)]; kernel_rfl) | (rw [if_neg (by decide +kernel)]; exact ⟨rfl, rfl⟩))
    (fun os started H enc _ => lifted os started H enc)
end traceWrites
end Go.Proofs.Ythdjgcjpolpgdaa
