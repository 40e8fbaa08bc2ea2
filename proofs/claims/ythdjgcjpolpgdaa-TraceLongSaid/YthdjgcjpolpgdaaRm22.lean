/- trace.read of claims, and trace.Decode; no condition. -/
import Derived.Test.YthdjgcjpolpgdaaRk22
import Derived.Test.YthdjgcjpolpgdaaWa
namespace Go.Proofs.Ythdjgcjpolpgdaa
set_option linter.unusedVariables false
set_option linter.unusedSimpArgs false
set_option linter.unusedSectionVars false
open Go.RowKit
attribute [local simp] List.getD_cons_zero List.getD_cons_succ List.getD_nil undef gvars runL runE effA stepA dstOk wantA core lk st dl AS.ev AS.evs AS.put AS.upd updO updI nxt cPick cAlloc cBox cBuild cBuildS cLoad cStore cNil plainOf cBin cNilS isNilS nilA cUn cConvX cConvB cConv bytesOf rowB cMake cSlice slA idxA cFA cF cIA cIX cIS cI cExt cLen cApp cMM cFun cCall lenA lenM isNilM nilM cNilM cMakeM hintB cMapK cLook foundR lookR cUpd putM cDel delM findA isKeyB Instr.sameNow AS.entry AS.bound AS.callee sc1 sc2 ixOk ldA AV.flat AV.cell AV.cells Value.oneCell' fillA spl chunk zeros AS.parts AS.rows AS.shut AS.shut1 AS.shut2 AS.shutL AS.shutM AV.ids idsL idsLL eqAll bndA AV.scalar AV.scalar1 AV.isV Ef.app Ef.pk ptOf pntO wrO wr
attribute [-simp] List.getD_eq_getElem?_getD
set_option maxRecDepth 100000
theorem claimR_ok (b : List Int) (bad : Bool) (hb : okBy b = true) : okInts (claimR (b, bad)).1.1 = true ∧ okInts (claimR (b, bad)).1.2 = true ∧ okBy (claimR (b, bad)).2.1 = true ∧ (claimR (b, bad)).2.1.length ≤ b.length := by
  obtain ⟨t1, t2, t3⟩ := rdT_ok b bad hb
  obtain ⟨i1, i2, i3⟩ := rdI_ok (rdT b bad).2.1 (rdT b bad).2.2 t2
  exact ⟨t1, i1, i2, by show (rdI (rdT b bad).2.1 (rdT b bad).2.2).2.2.1.length ≤ _; omega⟩
def rdC (b : List Int) (bad : Bool) : List Cl × List Int × Bool := rdLoop claimR (fun s => s.2) (numR b bad).1 [] ((numR b bad).2.1, (numR b bad).2.2 || decide (65536 < (numR b bad).1))
theorem rdC_ok (b : List Int) (bad : Bool) (hb : okBy b = true) : okCl (rdC b bad).1 = true ∧ okBy (rdC b bad).2.1 = true ∧ (rdC b bad).2.1.length ≤ b.length ∧ (rdC b bad).1.length ≤ 65536 := by
  obtain ⟨q1, q2, q3⟩ := numR_ok b bad hb
  by_cases hbd : ((numR b bad).2.2 || decide (65536 < (numR b bad).1)) = true
  · have e : rdC b bad = ([], (numR b bad).2.1, (numR b bad).2.2 || decide (65536 < (numR b bad).1)) := rdLoop_end hbd
    rw [e]
    exact ⟨rfl, q2, q3, by simp⟩
  have hn : (numR b bad).1 ≤ 65536 := by
    rw [Bool.or_eq_true, not_or, decide_eq_true_eq] at hbd
    omega
  have h1 := rdLoop_len (one := claimR) (bd := fun s => s.2) (numR b bad).1 [] ((numR b bad).2.1, (numR b bad).2.2 || decide (65536 < (numR b bad).1))
  have h2 := rdLoop_inv (one := claimR) (bd := fun s => s.2) (fun out s => (∀ p ∈ out, (okInts p.1 && okInts p.2) = true) ∧ okBy s.1 = true ∧ s.1.length ≤ b.length) (fun out s _ hi => by
    obtain ⟨i1, i2, i3⟩ := hi
    obtain ⟨p1, p2, p3, p4⟩ := claimR_ok s.1 s.2 i2
    refine ⟨fun x hx => ?_, p3, by show (claimR (s.1, s.2)).2.1.length ≤ _; omega⟩
    rw [List.mem_append, List.mem_singleton] at hx
    rcases hx with hx | rfl
    · exact i1 x hx
    · rw [Bool.and_eq_true]; exact ⟨p1, p2⟩) (numR b bad).1 [] ((numR b bad).2.1, (numR b bad).2.2 || decide (65536 < (numR b bad).1)) ⟨fun x hx => (by cases hx), q2, q3⟩
  rw [List.length_nil] at h1
  have h3 : (rdC b bad).1.length ≤ 65536 := by unfold rdC; omega
  refine ⟨?_, h2.2.1, h2.2.2, h3⟩
  unfold okCl
  rw [Bool.and_eq_true, decide_eq_true_eq]
  exact ⟨by omega, List.all_eq_true.2 h2.1⟩
@[simp ↓ high] theorem d_frz_cls (σ : AS) (D : Nat → Bool) (l : List Cl) : (l.map fun p => [aInts p.1, aInts p.2]).map (fun r => r.map (frzC σ D)) = l.map fun p => [aInts p.1, aInts p.2] := by
  rw [List.map_map]
  refine List.map_congr_left fun p _ => ?_
  show [frzC σ D (aInts p.1), frzC σ D (aInts p.2)] = [aInts p.1, aInts p.2]
  rw [d_frzC_ints, d_frzC_ints]
attribute [local simp] AV.ren renL
set_option maxHeartbeats 8000000 in
theorem readC_lend (b : List Int) (bad : Bool) (hb : okBy b = true) (hl : b.length ≤ maxB) :
    ∃ c, (Go.Proofs.Try.f66).body = some c ∧ LendR Try.prog TT Go.Proofs.Try.f66 c [.ptr 7 0 0, .v (.int .i64 65536), .bnd 67 [.ptr 7 0 0]] 7 (rO b bad) (aCls (rdC b bad).1) (rO (rdC b bad).2.1 (rdC b bad).2.2) := by
  refine ⟨_, rfl, fun B hI0 hro => ?_⟩
  rw [Try.ntmps66, Try.results66]
  simp only [enumA]
  have hmax : maxB = 16777216 := rfl
  obtain ⟨cn, hcn, hnum⟩ := rnumber_lend 7 b bad hb hl (by decide)
  obtain ⟨q1, q2, q3⟩ := numR_ok b bad hb
  obtain ⟨W, hW⟩ : ∃ W, rdC b bad = W := ⟨_, rfl⟩
  rw [hW]
  unfold rdC at hW
  obtain ⟨⟨n, b2, bad2⟩, hR⟩ : ∃ R, numR b bad = R := ⟨_, rfl⟩
  rw [hR] at hnum q1 q2 q3 hW
  dsimp only at hnum q1 q2 q3 hW
  clear hR
  refine amStr (h := ?_)
  refine amReg PT112_ok (h := ?_)
  refine amStr (h := ?_)
  refine s_regionL ?_
  ((iterate 1 (((with_reducible refine spl_step TT_ok PT112_ok (id := 0) (σ' := ?_) ?_ ?_); rotate_left; (focus (simp [*]; rfl))))))
  refine spl_lendR TT_ok 7 (f := 91) (avs := [.ptr 7 0 0]) (L := [.ptr 7 0 0]) rfl rfl rfl rfl rfl (by kernel_rfl) Try.func91 hcn (by simp [Try.ntmps91]) (by simp [lk]) (fun q hq => by simpa [idsL, AV.ids] using hq) (by simp [rO, idsLL, idsL, AV.ids]) rfl hnum ?_
  unfold rO
  clear hnum hcn
  (refine spl_eq (τ := ?_) ?_ ?_; rotate_left; (focus ((try simp only [AS.frz, List.map_cons, List.map_nil]); (try simp [frzV, frzO, frzC, List.filter]); rfl)))
  ((iterate 1 (((with_reducible refine spl_step TT_ok PT112_ok (id := 0) (σ' := ?_) ?_ ?_); rotate_left; (focus (simp [*]; rfl))))))
  refine spl_nil ?_
  refine amStr (h := ?_)
  refine amReg PT112_ok (h := ?_)
  refine amStr (h := ?_)
  refine s_cutK ⟨34, [(0, .ptr 7 0 0), (2, .bnd 67 [.ptr 7 0 0]), (7, .v (.int .i64 (n : Int)))], [(7, ⟨89, 2, [[.sl 1 (b2.map fun x => [.v (.int .u8 x)]), .v (.bool (bad2 || decide (65536 < n)))]]⟩)], [7]⟩ ?_ ?_
  · by_cases hn : 65536 < n
    · have hn1 : (65536 : Int) < (n : Int) := by omega
      refine amStr (h := ?_)
      refine amReg PT112_ok (h := ?_)
      refine amStr (h := ?_)
      refine ⟨rfl, fun c Q' k => s_weakI hI0 _ ?_ k⟩
      (refine weakI_of (fun i => i) ⟨rfl, ?_, ?_, ?_⟩ ?_ <;> ((try simp only [List.mem_cons, List.not_mem_nil, or_false, forall_eq_or_imp, forall_eq]); (try simp (disch := omega) [lk, AV.ids, idsL, idsLL, AV.ren, renL, renLL, i64w, *])))
    · have hn1 : ¬ ((65536 : Int) < (n : Int)) := by omega
      refine amStr (h := ?_)
      refine ⟨rfl, fun c Q' k => s_weakI hI0 _ ?_ k⟩
      (refine weakI_of (fun i => i) ⟨rfl, ?_, ?_, ?_⟩ ?_ <;> ((try simp only [List.mem_cons, List.not_mem_nil, or_false, forall_eq_or_imp, forall_eq]); (try simp (disch := omega) [lk, AV.ids, idsL, idsLL, AV.ren, renL, renLL, i64w, *])))
  refine amStr (h := ?_)
  refine amReg PT112_ok (h := ?_)
  refine amStr (h := ?_)
  refine s_nil 8 40 27 2 (by simp [lk]) (by simp) ?_
  simp only [st]
  obtain ⟨bd0, hbd0⟩ : ∃ bd0, (bad2 || decide (65536 < n)) = bd0 := ⟨_, rfl⟩
  have hbn : bd0 = false → n ≤ 65536 := fun h => by
    rw [h, Bool.or_eq_false_iff, decide_eq_false_iff_not] at hbd0
    omega
  rw [hbd0] at hW ⊢
  clear hbd0
  refine s_loopI hI0 (J := fun x : {x : List Cl × List Int × Bool // rdLoop claimR (fun s => s.2) (n - x.1.length) x.1 x.2 = W ∧ okBy x.2.1 = true ∧ x.2.1.length ≤ maxB ∧ x.1.length ≤ n ∧ (x.2.2 = false → n ≤ 65536)} => ⟨34, [(0, .ptr 7 0 0), (2, .bnd 67 [.ptr 7 0 0]), (7, .v (.int .i64 (n : Int))), (8, .ref 40 0 x.1.1.length)], [(7, ⟨89, 2, [[.sl 1 (x.1.2.1.map fun x => [.v (.int .u8 x)]), .v (.bool x.1.2.2)]]⟩), (40, ⟨27, 2, x.1.1.map fun p => [aInts p.1, aInts p.2]⟩)], [40, 7]⟩) (μ := fun x => n - x.1.1.length) ⟨([], b2, bd0), hW, q2, by dsimp only; omega, Nat.zero_le _, hbn⟩ ?_ (fun ⟨⟨out, b3, bd⟩, hx, hb3, hl3, hon, hbn3⟩ => ?_)
  · (refine weakI_of (fun i => i) ⟨rfl, ?_, ?_, ?_⟩ ?_ <;> ((try simp only [List.mem_cons, List.not_mem_nil, or_false, forall_eq_or_imp, forall_eq]); (try simp (disch := omega) [lk, AV.ids, idsL, idsLL, AV.ren, renL, renLL, i64w, *])))
  dsimp only at hx hb3 hl3 hon hbn3
  dsimp only
  cases bd
  · have hn128 := hbn3 rfl
    by_cases hlt : out.length < n
    · have hlt1 : (out.length : Int) < (n : Int) := by omega
      obtain ⟨f, hf⟩ : ∃ f, n - out.length = f + 1 := ⟨n - out.length - 1, by omega⟩
      rw [hf, rdLoop, if_neg (by simp)] at hx
      obtain ⟨cl, hcl, hlit⟩ := rclaim_lend b3 false hb3 hl3
      obtain ⟨_, _, q5', q6'⟩ := claimR_ok b3 false hb3
      obtain ⟨⟨⟨ts, cs⟩, b4, bd4⟩, hX⟩ : ∃ X, claimR (b3, false) = X := ⟨_, rfl⟩
      rw [hX] at hx hlit q5' q6'
      dsimp only at hx hlit q5' q6'
      have hcap : out.length + 1 ≤ 140737488355328 := by omega
      have hcap8 : (out.length + 1) * 48 ≤ 140737488355328 := by omega
      refine amStr (h := ?_)
      refine amReg PT112_ok (h := ?_)
      refine amStr (h := ?_)
      refine s_regionL ?_
      ((iterate 2 (((with_reducible refine spl_step TT_ok PT112_ok (id := 0) (σ' := ?_) ?_ ?_); rotate_left; (focus (simp [*]; rfl))))))
      refine spl_lendR TT_ok 7 (f := 67) (avs := []) (L := [.ptr 7 0 0]) rfl rfl rfl rfl rfl (by kernel_rfl) Try.func67 hcl (by simp [Try.ntmps67]) (by simp [lk, rO]) (fun q hq => by simpa [idsL, AV.ids] using hq) (ids_rO _ _) (by simp [idsL, AV.ids]) hlit ?_
      unfold rO
      clear hlit hcl
      (refine spl_eq (τ := ?_) ?_ ?_; rotate_left; (focus ((try simp only [AS.frz, List.map_cons, List.map_nil]); (try simp [frzV, frzO, frzC, List.filter]); rfl)))
      (((with_reducible refine spl_step TT_ok PT112_ok (id := 41) (σ' := ?_) ?_ ?_); rotate_left; (focus (simp [*]; rfl))))
      (((with_reducible refine spl_step TT_ok PT112_ok (id := 42) (σ' := ?_) ?_ ?_); rotate_left; (focus (simp [*]; rfl))))
      ((iterate 1 (((with_reducible refine spl_step TT_ok PT112_ok (id := 0) (σ' := ?_) ?_ ?_); rotate_left; (focus (simp [*]; rfl))))))
      refine spl_nil ?_
      refine amStr (h := ?_)
      refine ki_lp (⟨(out ++ [(ts, cs)], b4, bd4), by dsimp only; rw [List.length_append, show n - (out.length + [(ts, cs)].length) = f by simp; omega]; exact hx, q5', by dsimp only; omega, by simp; omega, fun _ => hn128⟩ : {x : List Cl × List Int × Bool // rdLoop claimR (fun s => s.2) (n - x.1.length) x.1 x.2 = W ∧ okBy x.2.1 = true ∧ x.2.1.length ≤ maxB ∧ x.1.length ≤ n ∧ (x.2.2 = false → n ≤ 65536)}) (by simp; omega) ?_
      dsimp only
      (refine weakI_of (fun q => if q = 40 then 42 else q) ⟨rfl, ?_, ?_, ?_⟩ ?_ <;> ((try simp only [List.mem_cons, List.not_mem_nil, or_false, forall_eq_or_imp, forall_eq]); (try simp (disch := omega) [lk, AV.ids, idsL, idsLL, AV.ren, renL, renLL, i64w, *])))
    · have hlt1 : ¬ ((out.length : Int) < (n : Int)) := by omega
      have hWo : W = (out, b3, false) := by rw [← hx, show n - out.length = 0 by omega]; rfl
      subst hWo
      refine amStr (h := ?_)
      refine amReg PT112_ok (h := ?_)
      refine amStr (h := ?_)
      refine s_frz (fun q => q == 40) ?_
      (refine s_eq (τ := ?_) ?_ ?_; rotate_left; (focus ((try simp only [AS.frz, List.map_cons, List.map_nil]); (try simp [frzV, frzO, frzC, List.filter]); rfl)))
      refine amStr (h := ?_)
      refine amReg PT112_ok (h := ?_)
      refine amStr (h := ?_)
      refine ⟨.inr rfl, _, rfl, rfl, ?_⟩
      (refine weakI_of (fun i => i) ⟨rfl, ?_, ?_, ?_⟩ ?_ <;> ((try simp only [List.mem_cons, List.not_mem_nil, or_false, forall_eq_or_imp, forall_eq]); (try simp (disch := omega) [lk, AV.ids, idsL, idsLL, AV.ren, renL, renLL, i64w, *])))
  · rw [rdLoop_end rfl] at hx
    subst hx
    obtain ⟨dlt, hdlt⟩ : ∃ dlt, decide ((out.length : Int) < (n : Int)) = dlt := ⟨_, rfl⟩
    cases dlt
    all_goals
      have hdl2 := of_decide_eq_true (p := True) rfl
      clear hdl2
      simp only [decide_eq_true_eq, decide_eq_false_iff_not] at hdlt
      refine amStr (h := ?_)
      refine amReg PT112_ok (h := ?_)
      refine amStr (h := ?_)
      refine s_frz (fun q => q == 40) ?_
      (refine s_eq (τ := ?_) ?_ ?_; rotate_left; (focus ((try simp only [AS.frz, List.map_cons, List.map_nil]); (try simp [frzV, frzO, frzC, List.filter]); rfl)))
      refine amStr (h := ?_)
      refine amReg PT112_ok (h := ?_)
      refine amStr (h := ?_)
      refine ⟨.inr rfl, _, rfl, rfl, ?_⟩
      (refine weakI_of (fun i => i) ⟨rfl, ?_, ?_, ?_⟩ ?_ <;> ((try simp only [List.mem_cons, List.not_mem_nil, or_false, forall_eq_or_imp, forall_eq]); (try simp (disch := omega) [lk, AV.ids, idsL, idsLL, AV.ren, renL, renLL, i64w, *])))
def decA (b : List Int) : AV :=
  if maxB < b.length then .tup [.v (.slice none 0 0), .v (.int .i64 2)]
  else if ((rdC b false).2.2 || decide (0 < (rdC b false).2.1.length)) = true then .tup [.v (.slice none 0 0), .v (.int .i64 5)]
  else .tup [aCls (rdC b false).1, .v (.int .i64 0)]
set_option maxHeartbeats 4000000 in
theorem decode_p (b : List Int) (hb : okBy b = true) (hl : b.length ≤ 9223372036854775807) : FnPure Try.prog 38 [aB b] (decA b) := by
  have hmax : maxB = 16777216 := rfl
  have hlm : (b.map fun x => [AV.v (.int .u8 x)]).length = b.length := List.length_map _
  unfold decA aB
  by_cases h1 : maxB < b.length
  · rw [if_pos h1]
    have g1 : (16777216 : Int) < (b.length : Int) := by omega
    refine fn_sp TT_ok Try.func38 (c := _) rfl (by simp [Try.ntmps38]) (fun B hI0 hro => ?_)
    rw [Try.ntmps38]
    simp only [enumA]
    refine amStr (h := ?_)
    refine amReg PT112_ok (h := ?_)
    refine amStr (h := ?_)
    refine amReg PT112_ok (h := ?_)
    refine amStr (h := ?_)
    refine amReg PT112_ok (h := ?_)
    refine amStr (h := ?_)
    ((refine post_ret (av := ?_) (by first | exact .inl rfl | exact .inr rfl) (show (Try.f38).results.toList = _ from by rw [Try.results38]) ?_ ?_); rotate_left; (focus (simp [retA, retL, ret1, lk, st, ldA, AV.cell]; rfl)); (try simp [*]))
  · rw [if_neg h1]
    have g1 : ¬ ((16777216 : Int) < (b.length : Int)) := by omega
    obtain ⟨cn, hcn, hrd⟩ := readC_lend b false hb (by omega)
    obtain ⟨⟨l, b2, bad2⟩, hR⟩ : ∃ X, rdC b false = X := ⟨_, rfl⟩
    rw [hR] at hrd ⊢
    dsimp only at hrd ⊢
    have hlm2 : (b2.map fun x => [AV.v (.int .u8 x)]).length = b2.length := List.length_map _
    refine fn_sp TT_ok Try.func38 (c := _) rfl (by simp [Try.ntmps38]) (fun B hI0 hro => ?_)
    rw [Try.ntmps38]
    simp only [enumA]
    refine amStr (h := ?_)
    refine amReg PT112_ok (h := ?_)
    refine amStr (h := ?_)
    refine amReg PT112_ok (h := ?_)
    refine amStr (h := ?_)
    refine s_regionL ?_
    ((iterate 2 (((with_reducible refine spl_step TT_ok PT112_ok (id := 0) (σ' := ?_) ?_ ?_); rotate_left; (focus (simp [*]; rfl))))))
    (((with_reducible refine spl_step TT_ok PT112_ok (id := 7) (σ' := ?_) ?_ ?_); rotate_left; (focus (simp [*]; rfl))))
    ((iterate 1 (((with_reducible refine spl_step TT_ok PT112_ok (id := 0) (σ' := ?_) ?_ ?_); rotate_left; (focus (simp [*]; rfl))))))
    refine spl_nil ?_
    refine amStr (h := ?_)
    refine s_regionL ?_
    ((iterate 3 (((with_reducible refine spl_step TT_ok PT112_ok (id := 0) (σ' := ?_) ?_ ?_); rotate_left; (focus (simp [*]; rfl))))))
    refine spl_lendR TT_ok 7 (av := aCls l) (f := 66) (avs := [.ptr 7 0 0, .v (.int .i64 65536), .bnd 67 [.ptr 7 0 0]]) (L := [.ptr 7 0 0, .v (.int .i64 65536), .bnd 67 [.ptr 7 0 0]]) rfl rfl rfl rfl rfl (by kernel_rfl) Try.func66 hcn (by simp [Try.ntmps66]) (by simp [lk, rO]) (fun q hq => by simpa [idsL, AV.ids] using hq) (ids_rO _ _) (d_ids_aCls l) hrd ?_
    unfold rO aCls
    clear hrd hcn
    (refine spl_eq (τ := ?_) ?_ ?_; rotate_left; (focus ((try simp only [AS.frz, List.map_cons, List.map_nil]); (try simp [frzV, frzO, frzC, List.filter]); rfl)))
    ((iterate 1 (((with_reducible refine spl_step TT_ok PT112_ok (id := 0) (σ' := ?_) ?_ ?_); rotate_left; (focus (simp [*]; rfl))))))
    refine spl_nil ?_
    cases bad2
    · by_cases hp : 0 < b2.length
      · have hp1 : (0 : Int) < (b2.length : Int) := by omega
        rw [if_pos (by simp [hp])]
        refine amStr (h := ?_)
        refine amReg PT112_ok (h := ?_)
        refine amStr (h := ?_)
        refine amReg PT112_ok (h := ?_)
        refine amStr (h := ?_)
        ((refine post_ret (av := ?_) (by first | exact .inl rfl | exact .inr rfl) (show (Try.f38).results.toList = _ from by rw [Try.results38]) ?_ ?_); rotate_left; (focus (simp [retA, retL, ret1, lk, st, ldA, AV.cell]; rfl)); (try simp [*]))
      · have hp1 : ¬ ((0 : Int) < (b2.length : Int)) := by omega
        rw [if_neg (by simp [hp])]
        refine amStr (h := ?_)
        refine amReg PT112_ok (h := ?_)
        refine amStr (h := ?_)
        refine amReg PT112_ok (h := ?_)
        refine amStr (h := ?_)
        ((refine post_ret (av := ?_) (by first | exact .inl rfl | exact .inr rfl) (show (Try.f38).results.toList = _ from by rw [Try.results38]) ?_ ?_); rotate_left; (focus (simp [retA, retL, ret1, lk, st, ldA, AV.cell]; rfl)); (try simp [*]))
    · rw [if_pos (by simp)]
      refine amStr (h := ?_)
      refine amReg PT112_ok (h := ?_)
      refine amStr (h := ?_)
      refine amReg PT112_ok (h := ?_)
      refine amStr (h := ?_)
      ((refine post_ret (av := ?_) (by first | exact .inl rfl | exact .inr rfl) (show (Try.f38).results.toList = _ from by rw [Try.results38]) ?_ ?_); rotate_left; (focus (simp [retA, retL, ret1, lk, st, ldA, AV.cell]; rfl)); (try simp [*]))
end Go.Proofs.Ythdjgcjpolpgdaa
