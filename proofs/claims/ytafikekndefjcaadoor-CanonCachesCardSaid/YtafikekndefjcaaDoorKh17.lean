/- The keys of the law Kept; no condition. -/
import Derived.Test.YtafikekndefjcaaDoorKg17
import Derived.Test.YtafikekndefjcaaDoorWa
import Derived.Test.YtafikekndefjcaaDoorCb17
import Derived.Test.YtafikekndefjcaaDoorAm32
namespace Go.Proofs.YtafikekndefjcaaDoor
set_option linter.unusedVariables false
set_option linter.unusedSimpArgs false
set_option linter.unusedSectionVars false
open Go.RowKit
attribute [local simp] List.getD_cons_zero List.getD_cons_succ List.getD_nil undef gvars runL runE effA stepA dstOk wantA core lk st dl AS.ev AS.evs AS.put AS.upd updO updI nxt cPick cAlloc cBox cBuild cBuildS cLoad cStore cNil plainOf cBin cNilS isNilS nilA cUn cConvX cConvB cConv bytesOf rowB cMake cSlice slA idxA cFA cF cIA cIX cIS cI cExt cLen cApp cMM cFun cCall lenA lenM isNilM nilM cNilM cMakeM hintB cMapK cLook foundR lookR cUpd putM cDel delM findA isKeyB Instr.sameNow AS.entry AS.bound AS.callee sc1 sc2 ixOk ldA AV.flat AV.cell AV.cells Value.oneCell' fillA spl chunk zeros AS.parts AS.rows AS.shut AS.shut1 AS.shut2 AS.shutL AS.shutM AV.ids idsL idsLL eqAll bndA AV.scalar AV.scalar1 AV.isV Ef.app Ef.pk ptOf pntO wrO wr
attribute [-simp] List.getD_eq_getElem?_getD
set_option maxRecDepth 100000
attribute [local simp] lk_st
theorem spl_eq {P : Program} {B : Base} {ops : Array Oper} {Q : Exit → AS → Prop} {σ τ : AS} {r : List Oper} (h : σ = τ) (k : SPL P B ops r τ Q) : SPL P B ops r σ Q := h ▸ k
def zlK (lens : List Int) (i : Nat) : Nat := (lens.getD i 0 % 100).toNat
def kyK (lens : List Int) (i : Nat) : List Int := (i : Int) :: List.replicate (zlK lens i) 0
set_option maxHeartbeats 1000000 in
theorem key_proc {O : List (Nat × AObj)} {I : List Nat} {b i y z : Nat} {lens : List Int} (hb : lk O b = some ⟨34, 1, [[aB lens]]⟩) (hB : okB lens = true) (hi : i < lens.length) (hi6 : i < 100) (hy : y ∉ I) (hz : z ∉ I) (hyz : y ≠ z) (hib : b ∈ I) :
    ProcB Tryd.prog TT Go.Proofs.Tryd.f32 [.v (.int .i64 (i : Int)), .ptr b 0 0] O I (fun av O' I' => ∃ r, (r = y ∨ r = z) ∧ av = .ref r 0 (kyK lens i).length ∧ lk O' r = some (u8O (kyK lens i)) ∧ (∀ k ∈ I', k = y ∨ k = z ∨ k ∈ I) ∧ (∀ k ∈ I, k ∈ I') ∧ r ∈ I' ∧ ∀ k, k ≠ y → k ≠ z → lk O' k = lk O k) := by
  have hyz2 := hyz.symm
  have hzb : z ≠ b := fun e => hz (e ▸ hib)
  have hzb2 := hzb.symm
  have hv : 0 ≤ lens.getD i 0 ∧ lens.getD i 0 < 256 := by
    unfold okB at hB
    rw [List.all_eq_true] at hB
    have e : lens.getD i 0 = lens[i] := by simp [List.getD, hi]
    have := hB _ (List.getElem_mem hi)
    rw [Bool.and_eq_true, decide_eq_true_eq, decide_eq_true_eq] at this
    rw [e]; exact this
  have hget : (lens.map fun x => [AV.v (.int .u8 x)]).getD i [] = [.v (.int .u8 (lens.getD i 0))] := by simp [List.getD, hi]
  have hzl : (lens.getD i 0).tmod 100 = (zlK lens i : Int) := by unfold zlK; rw [Int.tmod_eq_emod_of_nonneg hv.1]; omega
  have hz100 : zlK lens i < 100 := by unfold zlK; omega
  unfold kyK
  obtain ⟨v, hve⟩ : ∃ v, lens.getD i 0 = v := ⟨_, rfl⟩
  obtain ⟨q, hq⟩ : ∃ q, zlK lens i = q := ⟨_, rfl⟩
  rw [hve] at hv hget hzl
  rw [hq] at hzl hz100 ⊢
  have hw1 : IntKind.u8.wrap (i : Int) = (i : Int) := by rw [IntKind.wrap_u8]; omega
  have hw2 : IntKind.i64.wrap (q : Int) = (q : Int) := i64w (by omega) (by omega)
  have hw3 : IntKind.u8.wrap (q : Int) = (q : Int) := by rw [IntKind.wrap_u8]; omega
  have hii : (i : Int) < (lens.length : Int) := by omega
  unfold aB at hb
  clear hve hq hB
  refine ⟨_, rfl, fun B hI0 hro => ?_⟩
  rw [Tryd.ntmps32, Tryd.results32]
  simp only [enumA]
  refine amStr (h := ?_)
  refine amReg PTc_ok (h := ?_)
  refine amStr (h := ?_)
  refine s_regionL ?_
  ((iterate 2 (((with_reducible refine spl_step TT_ok PTc_ok (id := 0) (σ' := ?_) ?_ ?_); rotate_left; (focus (simp [*]; rfl))))))
  (((with_reducible refine spl_step TT_ok PTc_ok (id := z) (σ' := ?_) ?_ ?_); rotate_left; (focus (simp [*]; rfl))))
  ((iterate 6 (((with_reducible refine spl_step TT_ok PTc_ok (id := 0) (σ' := ?_) ?_ ?_); rotate_left; (focus (simp [*]; rfl))))))
  have hT : ∃ ti eb, TT 34 = some ti ∧ ti.kind = .slice 5 1 eb [.int .u8 0] ∧ eb = 1 := ⟨_, _, rfl, rfl, rfl⟩
  obtain ⟨ti, eb, hT1, hT2, rfl⟩ := hT
  by_cases hq0 : q = 0
  · subst hq0
    refine spl_op (s := (.ref z 0 1, [])) rfl rfl (ok_append_z0 (k := z) (off := 0) (n := 1) (ob := ⟨5, 1, [[.v (.int .u8 (i : Int))]]⟩) (kq := .i64) (TT_ok _ _ hT1) hT2 Tryd.underlying3 rfl rfl (by simp [lk_st]) (by simp) rfl) ?_
    (refine spl_eq (τ := ?_) ?_ ?_; rotate_left; (focus ((try simp only [AS.frz, List.map_cons, List.map_nil]); (try simp [frzV, frzO, frzC, List.filter]); rfl)))
    ((iterate 1 (((with_reducible refine spl_step TT_ok PTc_ok (id := 0) (σ' := ?_) ?_ ?_); rotate_left; (focus (simp [*]; rfl))))))
    refine spl_nil ?_
    refine amStr (h := ?_)
    refine ⟨.inr rfl, _, rfl, z, .inr rfl, rfl, ?_, ?_, ?_, ?_, fun k h1 h2 => ?_⟩
    · unfold u8O; simp [*]
    · intro k hk; simp at hk; rcases hk with hk | hk <;> simp [hk]
    · intro k hk; simp [hk]
    · simp
    · simp [lk_st, Ne.symm h1, Ne.symm h2]
  · refine spl_op (s := (.ref y 0 (1 + q), [(z, none), (y, some ⟨5, 1, [[.v (.int .u8 (i : Int))]] ++ List.replicate q [.v (.int .u8 0)]⟩)])) rfl rfl (ok_append_z (k := z) (off := 0) (n := 1) (id := y) (m := q) (ob := ⟨5, 1, [[.v (.int .u8 (i : Int))]]⟩) (kq := .i64) (TT_ok _ _ hT1) hT2 Tryd.underlying3 rfl rfl (by simp [lk_st]) rfl (by simp) rfl (by omega) (by omega) (by omega) (by simp [*])) ?_
    (refine spl_eq (τ := ?_) ?_ ?_; rotate_left; (focus ((try simp only [AS.frz, List.map_cons, List.map_nil]); (try simp [frzV, frzO, frzC, List.filter]); rfl)))
    ((iterate 1 (((with_reducible refine spl_step TT_ok PTc_ok (id := 0) (σ' := ?_) ?_ ?_); rotate_left; (focus (simp [*]; rfl))))))
    refine spl_nil ?_
    refine amStr (h := ?_)
    have hln : 1 + q = q + 1 := by omega
    refine ⟨.inr rfl, _, rfl, y, .inl rfl, ?_, ?_, ?_, ?_, ?_, fun k h1 h2 => ?_⟩
    · simp [hln]
    · unfold u8O; simp [*]
    · intro k hk; simp at hk; rcases hk with hk | hk | hk <;> simp [hk]
    · intro k hk; simp [hk]
    · simp
    · simp [lk_st, lk_dl, Ne.symm h1, Ne.symm h2]
end Go.Proofs.YtafikekndefjcaaDoor
