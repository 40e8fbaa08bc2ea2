/- trace.Left as a function that returns a list of its own; no condition. -/
import Derived.Test.YthdjgcjpolpgdaaTr2
import Derived.Test.YthdjgcjpolpgdaaWa
import Derived.Test.YthdjgcjpolpgdaaOb2
namespace Go.Proofs.Ythdjgcjpolpgdaa
set_option linter.unusedVariables false
set_option linter.unusedSimpArgs false
set_option linter.unusedSectionVars false
open Go.RowKit
attribute [local simp] List.getD_cons_zero List.getD_cons_succ List.getD_nil undef gvars runL runE effA stepA dstOk wantA core lk st dl AS.ev AS.evs AS.put AS.upd updO updI nxt cPick cAlloc cBox cBuild cBuildS cLoad cStore cNil plainOf cBin cNilS isNilS nilA cUn cConvX cConvB cConv bytesOf rowB cMake cSlice slA idxA cFA cF cIA cIX cIS cI cExt cLen cApp cMM cFun cCall lenA lenM isNilM nilM cNilM cMakeM hintB cMapK cLook foundR lookR cUpd putM cDel delM findA isKeyB Instr.sameNow AS.entry AS.bound AS.callee sc1 sc2 ixOk ldA AV.flat AV.cell AV.cells Value.oneCell' fillA spl chunk zeros AS.parts AS.rows AS.shut AS.shut1 AS.shut2 AS.shutL AS.shutM AV.ids idsL idsLL eqAll bndA AV.scalar AV.scalar1 AV.isV Ef.app Ef.pk ptOf pntO wrO wr
attribute [-simp] List.getD_eq_getElem?_getD
set_option maxRecDepth 100000
theorem within_L (xs : List Int) : Within (.tup [.ref 0 0 xs.length, .v (.int .i64 0)]) [(0, obI xs)] [0] :=
  ⟨fun k hk => by simpa [AV.ids, idsL] using hk, (within1 xs).2⟩
set_option maxHeartbeats 1000000 in
theorem left_obj (N : Int) (L : List (List Int)) (ts cs : List Int) (hN : okI N = true) (hL : okRows L = true) (ht : okInts ts = true) (hc : okInts cs = true) (hz : checkT N L = 0) (hg : goodB N L.length ts cs = true) :
    FnObj Try.prog 20 [aTh N L, aCl ts cs] (.tup [.ref 0 0 (keptL L ts cs).length, .v (.int .i64 0)]) [(0, obI (keptL L ts cs))] [0] := by
  have lt := okInts_len ht
  have lc := okInts_len hc
  have ll := okRows_len hL
  have hm : okI (L.length : Int) = true := okI_iff.2 ⟨by omega, by omega⟩
  unfold aTh
  have hix := good_ix hg
  have lc2 : cs.length ≤ 4096 := by
    have h1 := (checkT_ok hz).2.2.1
    by_cases h0 : cs.length = 0
    · omega
    · have := hix (cs.length - 1) (by omega); omega
  unfold aCl
  refine fn_obj TT_ok Try.func20 (c := _) rfl (by simp [Try.ntmps20]) (within_L _) (fun B hI0 hro => ?_)
  rw [Try.ntmps20]
  simp only [enumA]
  refine amGo PT24_ok (h := ?_)
  refine s_nil 6 40 3 1 (by simp [lk]) (by simp) ?_
  simp only [st]
  refine s_loop (J := fun i : {k : Nat // k ≤ cs.length} => ⟨43, [(2, .ptr 0 0 0), (3, .ptr 1 0 0), (6, .ref 40 0 (keptL L ts (cs.take i.1)).length), (23, aInts cs), (24, .v (.int .i64 (cs.length : Int))), (25, .v (.int .i64 (i.1 : Int)))], [(40, ⟨3, 1, (keptL L ts (cs.take i.1)).map fun x => [.v (.int .i64 x)]⟩), (0, ⟨24, 2, [[.v (.int .i64 N), aRows L]]⟩), (1, ⟨27, 2, [[aInts ts, aInts cs]]⟩)], [40, 1, 0]⟩) (μ := fun i => cs.length - i.1) ⟨0, Nat.zero_le _⟩ ?_ (fun ⟨k, hk⟩ => ?_)
  · have hk0 : keptL L ts [] = [] := rfl
    (refine weak_id rfl ?_ ?_ <;> ((try simp only [List.mem_cons, List.not_mem_nil, or_false, forall_eq_or_imp, forall_eq]); (try simp (disch := omega) [i64w, *])))
  have hlen := keptL_len L ts (cs.take k)
  rw [List.length_take] at hlen
  have hcap : ((keptL L ts (cs.take k)).length + 1) * 8 ≤ 140737488355328 := by omega
  refine amGo PT24_ok (h := ?_)
  (focus ((with_reducible refine sp_cond (b := ?_) ?_ (fun hc => ?_) (fun hc => ?_)); rotate_left; (focus (first | rfl | (simp [lk, AS.ev]; rfl))); all_goals (try simp at hc)))
  · have hkk := hc
    clear hc
    obtain ⟨i0, i1⟩ := hix k hkk
    have hs := keptL_succ L ts hkk
    unfold keptF at hs
    obtain ⟨x, hx⟩ : ∃ x, cs.getD k 0 = x := ⟨_, rfl⟩
    rw [hx] at i0 i1 hs
    have x0 : 0 ≤ x := by omega
    have hmx : max x 0 = x := by omega
    have hx2 : x.toNat < L.length := by omega
    have hci := okRows_at hL x.toNat
    have hcl := okInts_len hci
    obtain ⟨c, hcc⟩ : ∃ c, L.getD x.toNat [] = c := ⟨_, rfl⟩
    rw [hcc] at hci hcl hs
    refine amGo PT24_ok (h := ?_)
    refine s_regionL ?_
    ((iterate 6 (((with_reducible refine spl_step TT_ok PT24_ok (id := 0) (σ' := ?_) ?_ ?_); rotate_left; (focus (simp [*]; rfl))))))
    have hlk := left1_looks ts cs c [(40, ⟨3, 1, (keptL L ts (cs.take k)).map fun x => [.v (.int .i64 x)]⟩), (0, ⟨24, 2, [[.v (.int .i64 N), aRows L]]⟩), (1, ⟨27, 2, [[aInts ts, aInts cs]]⟩)] [40, 1, 0] ht hci rfl
    refine spl_call TT_ok rfl rfl rfl (by kernel_rfl) Try.func48 rfl (avs := [aInts c, .clo 49 [.ptr 1 0 0]]) (cs := []) rfl rfl (by simp [Try.ntmps48]) fun B2 hI2 hro2 => ?_
    refine sp_mono (cntFI_sp (known_of (by simp [AV.ids, idsL, idsLL])) (by omega) (by simp [AV.ids, idsL]) hlk rfl hI2) fun e τ hq => ?_
    obtain ⟨h1, h2, h3, h4⟩ := hq
    refine ⟨h1, _, h2, ?_⟩
    rw [h3, h4]
    ((iterate 1 (((with_reducible refine spl_step TT_ok PT24_ok (id := 0) (σ' := ?_) ?_ ?_); rotate_left; (focus (simp [*]; rfl))))))
    refine spl_nil ?_
    cases hq : c.any fun l => decide (l ∈ ts)
    · rw [hq] at hs
      simp only [Bool.not_false, if_true] at hs
      refine amGo PT24_ok (h := ?_)
      refine k_lp (⟨k + 1, by omega⟩ : {k : Nat // k ≤ cs.length}) (by dsimp only; omega) ?_
      (refine weak_of (fun k => if k = 40 then 44 else k) ⟨rfl, ?_, ?_, ?_⟩ <;> ((try simp only [List.mem_cons, List.not_mem_nil, or_false, forall_eq_or_imp, forall_eq]); (try simp (disch := omega) [lk, AV.ids, idsL, idsLL, AV.ren, renL, renLL, i64w, *])))
    · rw [hq] at hs
      simp only [Bool.not_true, Bool.false_eq_true, if_false] at hs
      refine amGo PT24_ok (h := ?_)
      refine k_lp (⟨k + 1, by omega⟩ : {k : Nat // k ≤ cs.length}) (by dsimp only; omega) ?_
      (refine weak_id rfl ?_ ?_ <;> ((try simp only [List.mem_cons, List.not_mem_nil, or_false, forall_eq_or_imp, forall_eq]); (try simp (disch := omega) [i64w, *])))
  · obtain rfl : k = cs.length := by omega
    rw [List.take_length]
    refine amGo PT24_ok (h := ?_)
    refine post_obj (av := .tup [.ref 40 0 (keptL L ts cs).length, .v (.int .i64 0)]) (.inr rfl) (by rw [Try.results20]) ?_ (fun _ => 40) rfl (fun k ob hk => ?_) (fun k ob k' ob' hk hk' _ => ?_)
    · simp [retA, retL, ret1, lk, ldA, AV.cell]
    · simp only [lk] at hk
      split at hk <;> cases hk
      simp [lk, obI]
    · simp only [lk] at hk hk'
      split at hk <;> split at hk' <;> first | (cases hk; done) | (cases hk'; done) | omega
end Go.Proofs.Ythdjgcjpolpgdaa
