/- censuslaw23.decides, apart; no condition. -/
import Derived.Test.YtllkogdgmmcfgaaGreatDoorSl23
import Derived.Test.YtllkogdgmmcfgaaGreatDoorWa
namespace Go.Proofs.YtllkogdgmmcfgaaGreatDoor
set_option linter.unusedVariables false
set_option linter.unusedSimpArgs false
set_option linter.unusedSectionVars false
open Go.RowKit
attribute [local simp] List.getD_cons_zero List.getD_cons_succ List.getD_nil undef gvars runL runE effA stepA dstOk wantA core lk st dl AS.ev AS.evs AS.put AS.upd updO updI nxt cPick cAlloc cBox cBuild cBuildS cLoad cStore cNil plainOf cBin cNilS isNilS nilA cUn cConvX cConvB cConv bytesOf rowB cMake cSlice slA idxA cFA cF cIA cIX cIS cI cExt cLen cApp cMM cFun cCall lenA lenM isNilM nilM cNilM cMakeM hintB cMapK cLook foundR lookR cUpd putM cDel delM findA isKeyB Instr.sameNow AS.entry AS.bound AS.callee sc1 sc2 ixOk ldA AV.flat AV.cell AV.cells Value.oneCell' fillA spl chunk zeros AS.parts AS.rows AS.shut AS.shut1 AS.shut2 AS.shutL AS.shutM AV.ids idsL idsLL eqAll bndA AV.scalar AV.scalar1 AV.isV Ef.app Ef.pk ptOf pntO wrO wr
attribute [-simp] List.getD_eq_getElem?_getD
set_option maxRecDepth 100000
def DecP (N : Int) (ns : List Nd) : Prop := ∀ i, i < ns.length → kindN ns (i : Int) = 4 → (inN ns (i : Int)).length = 2 ∧ ∃ v, 1 ≤ v ∧ v ≤ N ∧ decL ns (i : Int) v = true
def decK (ns : List Nd) (i : Int) (k : Nat) : Bool := (List.range k).any fun q => decL ns i ((q : Int) + 1)
theorem decK_zero (ns : List Nd) (i : Int) : decK ns i 0 = false := rfl
theorem decK_succ (ns : List Nd) (i : Int) (k : Nat) : decK ns i (k + 1) = (decK ns i k || decL ns i ((k : Int) + 1)) := by unfold decK; rw [List.range_succ, List.any_append]; simp
theorem decK_end {ns : List Nd} {i : Int} {k : Nat} {v : Int} (h1 : 1 ≤ v) (h2 : v ≤ (k : Int)) (h : decL ns i v = true) : decK ns i k = true := by
 unfold decK
 rw [List.any_eq_true]
 exact ⟨(v - 1).toNat, List.mem_range.2 (by omega), by rw [show (((v - 1).toNat : Nat) : Int) + 1 = v by omega]; exact h⟩
def decAllB (N : Int) (ns : List Nd) : Bool := (List.range ns.length).all fun i => !decide (kindN ns (i : Int) = 4) || (decide ((inN ns (i : Int)).length = 2) && decK ns (i : Int) N.toNat)
theorem decAllB_of {N : Int} {ns : List Nd} (h : DecP N ns) : decAllB N ns = true := by
 unfold decAllB
 refine List.all_eq_true.2 fun i hi => ?_
 by_cases hk : kindN ns (i : Int) = 4
 ·obtain ⟨h1, v, h2, h3, h4⟩ := h i (List.mem_range.1 hi) hk
  rw [decide_eq_true h1, decK_end h2 (show v ≤ ((N.toNat : Nat) : Int) by omega) h4]; simp
 ·rw [decide_eq_false hk]; rfl
theorem of_decAllB {N : Int} {ns : List Nd} (hN : 0 ≤ N) (h : decAllB N ns = true) : DecP N ns := fun i hi hk => by
 unfold decAllB at h
 have := List.all_eq_true.1 h i (List.mem_range.2 hi)
 rw [decide_eq_true hk, Bool.not_true, Bool.false_or, Bool.and_eq_true, decide_eq_true_eq] at this
 refine ⟨this.1, ?_⟩
 have h2 := this.2
 unfold decK at h2
 obtain ⟨q, hq, hq2⟩ := List.any_eq_true.1 h2
 have := List.mem_range.1 hq
 exact ⟨(q : Int) + 1, by omega, by omega, hq2⟩
set_option maxHeartbeats 8000000 in
theorem decides_p (N : Int) (ns : List Nd) (hN : okI N = true) (hns : okNs ns = true) (hv : validN N ns = true) (hd : DecP N ns) : FnPure Tryz.prog 18 [aNet N ns] (.v (.bool true)) := by
 have hnl := okNs_len hns
 have hN0 : 0 ≤ N ∧ N ≤ 128 := by
  have := hv
  unfold validN at this
  simp only [Bool.and_eq_true, decide_eq_true_eq] at this
  exact ⟨this.1.1.1.1, this.1.1.1.2⟩
 obtain ⟨n, rfl⟩ := Int.eq_ofNat_of_zero_le hN0.1
 have HD := Lib.hid hd
 clear hd
 unfold aNet aNds
 refine fn_sp TT_ok Tryz.func18 (c := _) rfl (by simp [Tryz.ntmps18]) (fun B hI0 hro => ?_)
 rw [Tryz.ntmps18]
 simp only [enumA]
 refine amGo PT231_ok (h := ?_)
 refine s_loop (J := fun k : {k : Nat // k ≤ ns.length} => ⟨75, [(1, .ptr 0 0 0), (2, .v (.bool false)), (3, .v (.int .i64 (k.1 : Int)))], [(0, ⟨28, 2, [[.v (.int .i64 (n : Int)), aNds ns]]⟩)], [0]⟩) (μ := fun k => ns.length - k.1) ⟨0, Nat.zero_le _⟩ ?_ (fun ⟨i, hi⟩ => ?_)
 ·(refine weak_id rfl ?_ ?_ <;> ((try simp only [List.mem_cons, List.not_mem_nil, or_false, forall_eq_or_imp, forall_eq]); (try simp (disch := omega) [i64w, *])))
  all_goals rfl
 dsimp only
 unfold aNds
 refine amStr (h := ?_)
 refine amReg PT231_ok (h := ?_)
 refine amStr (h := ?_)
 (focus ((with_reducible refine sp_cond (b := ?_) ?_ (fun hc => ?_) (fun hc => ?_)); rotate_left; (focus (first | rfl | (simp [lk, AS.ev]; rfl))); all_goals (try simp at hc)))
 ·have hii : i < ns.length := by omega
  clear hc
  have hji : (i : Int) < (ns.length : Int) := by omega
  have hget := nds_get hii
  have hwi : IntKind.i64.wrap ((i : Int) + 1) = (i : Int) + 1 := i64s i (by omega)
  have hfm := valid_form hv hii
  have hdi := HD.out i hii
  obtain ⟨o1, o2, o3, o4⟩ := okNs_at hns hii
  have hk4 : kindN ns (i : Int) = (ns.getD i nd0).1 := rfl
  have hi4 : inN ns (i : Int) = (ns.getD i nd0).2.2 := rfl
  have hdl : ∀ v, decL ns (i : Int) v = ((litB ns ((ns.getD i nd0).2.2.getD 0 0) v && litB ns ((ns.getD i nd0).2.2.getD 1 0) (-v)) || (litB ns ((ns.getD i nd0).2.2.getD 0 0) (-v) && litB ns ((ns.getD i nd0).2.2.getD 1 0) v)) := fun v => rfl
  have hin : ∀ j, j < (ns.getD i nd0).2.2.length → 0 ≤ (ns.getD i nd0).2.2.getD j 0 ∧ (ns.getD i nd0).2.2.getD j 0 < (ns.length : Int) := fun j hj => by
   have hmem : (ns.getD i nd0).2.2.getD j 0 ∈ (ns.getD i nd0).2.2 := getD_memI hj
   have := form_in hfm hmem
   exact ⟨this.1, by omega⟩
  rw [hk4, hi4] at hdi
  clear hk4 hi4 hfm
  obtain ⟨x, hx⟩ : ∃ x, ns.getD i nd0 = x := ⟨_, rfl⟩
  rw [hx] at hdi hdl hin o1 o2 o3 o4 hget
  clear hx
  obtain ⟨K, y, is⟩ := x
  simp only at hdi hdl hin o1 o2 o3 o4 hget
  by_cases h4 : K = 4
  ·subst h4
   obtain ⟨hl2, v0, hv1, hv2, hv3⟩ := hdi rfl
   have hend := decK_end (k := n) hv1 hv2 hv3
   have h0 := hin 0 (by omega)
   have h1 := hin 1 (by omega)
   have hz0 : 0 < is.length := by omega
   have hz1 : 1 < is.length := by omega
   have hlb : ((is.length : Int) == 2) = true := by rw [beq_iff_eq]; omega
   have hx0 : okI (is.getD 0 0) = true := okI_iff.2 (okInts_at o3 0)
   have hx1 : okI (is.getD 1 0) = true := okI_iff.2 (okInts_at o3 1)
   obtain ⟨a, ha⟩ : ∃ a, is.getD 0 0 = a := ⟨_, rfl⟩
   obtain ⟨b, hb⟩ : ∃ b, is.getD 1 0 = b := ⟨_, rfl⟩
   rw [ha] at h0 hx0 hdl
   rw [hb] at h1 hx1 hdl
   obtain ⟨ha0, ha1⟩ := h0
   obtain ⟨hb0, hb1⟩ := h1
   have HDL := Lib.hid hdl
   have HE := Lib.hid hend
   have hst := fun k => decK_succ ns (i : Int) k
   have hz := decK_zero ns (i : Int)
   obtain ⟨f, hf⟩ : ∃ f : Nat → Bool, decK ns (i : Int) = f := ⟨_, rfl⟩
   rw [hf] at HE hst hz
   have HST := Lib.hid hst
   clear hst hf hdl hend hdi hv1 hv2 hv3 hin
   refine amStr (h := ?_)
   refine amReg PT231_ok (h := ?_)
   refine amStr (h := ?_)
   refine amReg PT231_ok (h := ?_)
   refine amStr (h := ?_)
   refine amReg PT231_ok (h := ?_)
   refine amStr (h := ?_)
   refine amReg PT231_ok (h := ?_)
   refine amStr (h := ?_)
   refine s_loop (J := fun k : {k : Nat // k ≤ n} => ⟨75, [(1, .ptr 0 0 0), (2, .v (.bool false)), (3, .v (.int .i64 (i : Int))), (4, .ptr 6 0 0), (5, .v (.bool (f k.1))), (6, .v (.int .i64 ((k.1 : Int) + 1)))], [(0, ⟨28, 2, [[.v (.int .i64 (n : Int)), aNds ns]]⟩), (6, ⟨32, 3, [[.v (.int .i64 4), .v (.int .i64 y), aInts is]]⟩)], [6, 0]⟩) (μ := fun k => n - k.1) ⟨0, Nat.zero_le _⟩ ?_ (fun ⟨k, hk⟩ => ?_)
   ·(refine weak_id rfl ?_ ?_ <;> ((try simp only [List.mem_cons, List.not_mem_nil, or_false, forall_eq_or_imp, forall_eq]); (try simp (disch := omega) [i64w, *])))
    all_goals first | rfl | trace_state
   dsimp only
   have hdk := HDL.out ((k : Int) + 1)
   have hsk := HST.out k
   rw [hdk] at hsk
   have hwk : IntKind.i64.wrap ((k : Int) + 1 + 1) = (k : Int) + 1 + 1 := i64w (by omega) (by omega)
   obtain ⟨v, hvk⟩ : ∃ v, (k : Int) + 1 = v := ⟨_, rfl⟩
   rw [hvk] at hsk hwk
   rw [hvk]
   have hvo : okI v = true := okI_iff.2 ⟨by omega, by omega⟩
   have hvo2 : okI (-v) = true := okI_iff.2 ⟨by omega, by omega⟩
   have hwn : IntKind.i64.wrap (-v) = -v := i64w (by omega) (by omega)
   have hv2 : ((k + 1 : Nat) : Int) + 1 = v + 1 := by omega
   have HVK := Lib.hid hvk
   obtain ⟨c, hcf⟩ : ∃ c, f k = c := ⟨_, rfl⟩
   rw [hcf] at hsk
   rw [hcf]
   have HCF := Lib.hid hcf
   have HSK := Lib.hid hsk
   clear hvk hdk hsk hcf
   unfold aNds
   by_cases hkk : k < n
   ·have hvn : v ≤ (n : Int) := by have := HVK.out; omega
    cases c
    ·obtain ⟨a1, ha1⟩ : ∃ b, litB ns a v = b := ⟨_, rfl⟩
     obtain ⟨a2, ha2⟩ : ∃ c, litB ns b (-v) = c := ⟨_, rfl⟩
     obtain ⟨a3, ha3⟩ : ∃ b, litB ns a (-v) = b := ⟨_, rfl⟩
     obtain ⟨a4, ha4⟩ : ∃ c, litB ns b v = c := ⟨_, rfl⟩
     have hsk := HSK.out
     rw [ha1, ha2, ha3, ha4] at hsk
     cases a1 <;> cases a2 <;> cases a3 <;> cases a4
     all_goals
      simp at hsk
      clear HSK HE HST HDL HD HCF
      refine amStr (h := ?_)
      refine amReg PT231_ok (h := ?_)
      refine amStr (h := ?_)
      refine amDrw PT231_ok (h := ?_)
      refine amStr (h := ?_)
      refine amReg PT231_ok (h := ?_)
      refine k_lp (⟨k + 1, hkk⟩ : {k : Nat // k ≤ n}) (by dsimp only; omega) ?_
      (refine weak_id rfl ?_ ?_ <;> ((try simp only [List.mem_cons, List.not_mem_nil, or_false, forall_eq_or_imp, forall_eq]); (try simp (disch := omega) [i64w, *])))
      all_goals first | rfl | exact HVK.out.symm | trace_state
    ·have hsk := HSK.out
     simp at hsk
     clear HSK HE HST HDL HD HCF
     refine amStr (h := ?_)
     refine amReg PT231_ok (h := ?_)
     refine amStr (h := ?_)
     refine amDrw PT231_ok (h := ?_)
     refine amStr (h := ?_)
     refine amReg PT231_ok (h := ?_)
     refine k_lp (⟨k + 1, hkk⟩ : {k : Nat // k ≤ n}) (by dsimp only; omega) ?_
     (refine weak_id rfl ?_ ?_ <;> ((try simp only [List.mem_cons, List.not_mem_nil, or_false, forall_eq_or_imp, forall_eq]); (try simp (disch := omega) [i64w, *])))
     all_goals first | rfl | exact HVK.out.symm | trace_state
   ·obtain rfl : k = n := by omega
    have hvn : ¬ (v ≤ (k : Int)) := by have := HVK.out; omega
    have hc1 : c = true := by rw [← HCF.out]; exact HE.out
    subst hc1
    clear HSK HE HST HDL HCF
    refine amStr (h := ?_)
    refine amReg PT231_ok (h := ?_)
    refine amStr (h := ?_)
    refine amReg PT231_ok (h := ?_)
    refine amStr (h := ?_)
    refine amReg PT231_ok (h := ?_)
    refine k_lp (⟨i + 1, hii⟩ : {k : Nat // k ≤ ns.length}) (by dsimp only; omega) ?_
    (refine weak_id rfl ?_ ?_ <;> ((try simp only [List.mem_cons, List.not_mem_nil, or_false, forall_eq_or_imp, forall_eq]); (try simp (disch := omega) [i64w, *])))
    all_goals rfl
  ·have h4b : (K != 4) = true := by simpa using h4
   clear hdi hdl hin
   refine amStr (h := ?_)
   refine amReg PT231_ok (h := ?_)
   refine amStr (h := ?_)
   refine amReg PT231_ok (h := ?_)
   refine amStr (h := ?_)
   refine amReg PT231_ok (h := ?_)
   refine k_lp (⟨i + 1, hii⟩ : {k : Nat // k ≤ ns.length}) (by dsimp only; omega) ?_
   (refine weak_id rfl ?_ ?_ <;> ((try simp only [List.mem_cons, List.not_mem_nil, or_false, forall_eq_or_imp, forall_eq]); (try simp (disch := omega) [i64w, *])))
   all_goals rfl
 ·refine amStr (h := ?_)
  refine amReg PT231_ok (h := ?_)
  refine amStr (h := ?_)
  (refine amRt Tryz.results18 (h := ?_); try simp [*])
theorem valid_N {N : Int} {ns : List Nd} (h : validN N ns = true) : 0 ≤ N := by
 unfold validN at h
 simp only [Bool.and_eq_true, decide_eq_true_eq] at h
 exact h.1.1.1.1
@[simp] def g_l23Dec : List AV → Option (AV × Bool)
 | [.agg [.v (.int .i64 N), a0]] => (match toNds a0 with | some ns => if (okI N && okNs ns && (validN N ns && decAllB N ns)) = true then some (.v (.bool true), false) else none | none => none)
 | _ => none
theorem e_l23Dec : EntOk Tryz.prog 18 g_l23Dec := ent_pure (by kernel_rfl) fun args r fr h => by
 unfold g_l23Dec at h
 split at h
 ·rename_i N a0
  split at h
  ·rename_i ns t0
   split at h
   ·rename_i hc
    simp only [Bool.and_eq_true] at hc
    obtain ⟨⟨m0, o0⟩, hk⟩ := hc
    cases h
    exact ⟨FnPure.cov (decides_p N ns m0 o0 hk.1 (of_decAllB (valid_N hk.1) hk.2)) (.cons (cov_th _ (cov_nds t0)) .nil), rfl⟩
   ·cases h
  ·cases h
 ·cases h

end Go.Proofs.YtllkogdgmmcfgaaGreatDoor
