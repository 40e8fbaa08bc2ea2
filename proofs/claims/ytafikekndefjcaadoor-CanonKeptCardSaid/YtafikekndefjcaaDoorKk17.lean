/- CanonKept: how long an entry is found. -/
import Derived.Test.YtafikekndefjcaaDoorKi17
import Derived.Test.YtafikekndefjcaaDoorWa
import Derived.Test.YtafikekndefjcaaDoorLd
namespace Go.Proofs.YtafikekndefjcaaDoor
set_option linter.unusedVariables false
set_option linter.unusedSimpArgs false
set_option linter.unusedSectionVars false
open Go.RowKit Go.WideShapes Go.ChangeShapes Go.ChangeAt
attribute [local simp] List.getD_cons_zero List.getD_cons_succ List.getD_nil undef gvars runL runE effA stepA dstOk wantA core lk st dl AS.ev AS.evs AS.put AS.upd updO updI nxt cPick cAlloc cBox cBuild cBuildS cLoad cStore cNil plainOf cBin cNilS isNilS nilA cUn cConvX cConvB cConv bytesOf rowB cMake cSlice slA idxA cFA cF cIA cIX cIS cI cExt cLen cApp cMM cFun cCall lenA lenM isNilM nilM cNilM cMakeM hintB cMapK cLook foundR lookR cUpd putM cDel delM findA isKeyB Instr.sameNow AS.entry AS.bound AS.callee sc1 sc2 ixOk ldA AV.flat AV.cell AV.cells Value.oneCell' fillA spl chunk zeros AS.parts AS.rows AS.shut AS.shut1 AS.shut2 AS.shutL AS.shutM AV.ids idsL idsLL eqAll bndA AV.scalar AV.scalar1 AV.isV Ef.app Ef.pk ptOf pntO wrO wr
attribute [-simp] List.getD_eq_getElem?_getD
set_option maxRecDepth 100000
attribute [local simp] lk_st
theorem fit_iff {lens : List Int} {M : Int} (h0 : 0 ≤ M) (i : Nat) : fitK M (enK lens i) = decide (((kyK lens i).length : Int) + 16 ≤ M) := by
  unfold fitK
  have : entZ (enK lens i) = (kyK lens i).length + 16 := rfl
  rw [this, decide_eq_decide]
  omega
set_option maxHeartbeats 8000000 in
theorem kept_ok (x : Int) (lens : List Int) (hx0 : 0 ≤ x) (hx1 : x ≤ 65535) (hB : okB lens = true) (hl : lens.length ≤ 60) : FnPure Tryd.prog 8 [.v (.int .u16 x), aB lens] (.v (.bool true)) := by
  obtain ⟨M, hM⟩ : ∃ M, x.tmod 4096 = M := ⟨_, rfl⟩
  have hM2 : M = x % 4096 := by rw [← hM, Int.tmod_eq_emod_of_nonneg hx0]
  have hM0 : 0 ≤ M := by omega
  have hM1 : M < 4096 := by omega
  have hw1 : IntKind.u16.wrap M = M := by rw [IntKind.wrap_u16]; omega
  have hw2 : IntKind.i64.wrap M = M := i64w (by omega) (by omega)
  clear hM2
  have hli : ¬ (60 < (lens.length : Int)) := by omega
  unfold aB
  refine fn_sp TT_ok Tryd.func8 (c := _) rfl (by simp [Tryd.ntmps8]) (fun B hI0 hro => ?_)
  rw [Tryd.ntmps8]
  simp only [enumA]
  refine amStr (h := ?_)
  refine amReg PTv_ok (h := ?_)
  refine amStr (h := ?_)
  refine amReg PTv_ok (h := ?_)
  refine amStr (h := ?_)
  refine s_regionL ?_
  ((iterate 3 (((with_reducible refine spl_step TT_ok PTv_ok (id := 0) (σ' := ?_) ?_ ?_); rotate_left; (focus (simp [*]; rfl))))))
  refine spl_procB TT_ok rfl rfl rfl (by kernel_rfl) Tryd.func25 (avs := [.v (.int .i64 M)]) (cs := []) rfl rfl (by simp [Tryd.ntmps25]) (new_proc (c := 3) (m := 1) (s := 2) hM0 (by omega) (by simp) (by simp) (by simp) (by omega) (by omega) (by omega)) fun av O1 I1 hK => ?_
  obtain ⟨rfl, rfl, k1, k2⟩ := hK
  have hKp : KpI M lens 0 O1 [3, 2, 1, 0] (fun _ => 2) 4 := ⟨k1, by rw [k2 0 (by omega) (by omega) (by omega)]; simp [lk, aB], ⟨by omega, by omega, fun t _ => by show (0 : Nat) ≠ 2; omega⟩, by simp, fun q hq => by simp at hq; omega⟩
  have HKp := Lib.hid hKp
  clear hKp k1 k2
  ((iterate 5 (((with_reducible refine spl_step TT_ok PTv_ok (id := 0) (σ' := ?_) ?_ ?_); rotate_left; (focus (simp [*]; rfl))))))
  refine spl_nil ?_
  refine amStr (h := ?_)
  refine amReg PTv_ok (h := ?_)
  refine amStr (h := ?_)
  refine amReg PTv_ok (h := ?_)
  refine amStr (h := ?_)
  have hbx := HKp.out.bx
  unfold aB at hbx
  refine amReg PTv_ok (h := ?_)
  refine amStr (h := ?_)
  clear hbx
  refine s_loopS (J := fun y : {y : List (Nat × AObj) × List Nat × (Nat → Nat) × Nat × Nat // Hid (KpI M lens y.2.2.2.2 y.1 y.2.1 y.2.2.1 y.2.2.2.1) ∧ y.2.2.2.2 ≤ lens.length} => ⟨138, [(0, .v (.int .u16 x)), (3, .ptr 0 0 0), (4, .v (.bool false)), (5, .ptr 3 0 0), (7, .clo 32 [.ptr 0 0 0]), (33, .v (.int .i64 (lens.length : Int))), (34, .v (.int .i64 (y.1.2.2.2.2 : Int)))], y.1.1, y.1.2.1⟩) (μ := fun y => lens.length - y.1.2.2.2.2) ⟨(O1, [3, 2, 1, 0], fun _ => 2, 4, 0), HKp, Nat.zero_le _⟩ ?_ (fun ⟨⟨O, I, nm, bd, k⟩, HK, hk⟩ => ?_)
  · exact SubS.of rfl (by simp) rfl rfl
  clear HKp
  dsimp only at HK hk
  dsimp only
  refine amStr (h := ?_)
  refine amReg PTv_ok (h := ?_)
  refine amStr (h := ?_)
  (focus ((with_reducible refine sp_cond (b := ?_) ?_ (fun hc => ?_) (fun hc => ?_)); rotate_left; (focus (first | rfl | (simp [lk, AS.ev]; rfl))); all_goals (try simp at hc)))
  · have hkk : k < lens.length := by omega
    clear hc
    have hki : (k : Int) < (lens.length : Int) := by omega
    have hwk : IntKind.i64.wrap ((k : Int) + 1) = (k : Int) + 1 := i64s k (by omega)
    have hwv : IntKind.i64.wrap (1000 + (k : Int)) = 1000 + (k : Int) := i64w (by omega) (by omega)
    have hkl := kyK_len lens k
    have hkb := kyK_okB lens (show k < 256 by omega)
    have hbi := HK.out.bi
    refine amStr (h := ?_)
    refine amReg PTv_ok (h := ?_)
    refine amStr (h := ?_)
    refine s_regionL ?_
    ((iterate 2 (((with_reducible refine spl_step TT_ok PTv_ok (id := 0) (σ' := ?_) ?_ ?_); rotate_left; (focus (simp [*]; rfl))))))
    refine spl_procB TT_ok rfl rfl rfl (by kernel_rfl) Tryd.func32 (avs := [.v (.int .i64 (k : Int))]) (cs := [.ptr 0 0 0]) rfl rfl (by simp [Tryd.ntmps32]) (key_proc (y := bd) (z := bd + 1) HK.out.bx hB hkk (by omega) (fun h => by have := HK.out.bd _ h; omega) (fun h => by have := HK.out.bd _ h; omega) (by omega) hbi) fun av O2 I2 hK => ?_
    obtain ⟨r, hr, rfl, g1, g2, g3, g4, g5⟩ := hK
    have HK2 := Lib.hid (HK.out.key g2 g3 g5)
    have hbi2 := HK2.out.bi
    clear g1 g2 g3 g4 g5
    have hws : IntKind.i64.wrap (((kyK lens k).length : Int) + 16) = ((kyK lens k).length : Int) + 16 := i64w (by omega) (by omega)
    ((iterate 3 (((with_reducible refine spl_step TT_ok PTv_ok (id := 0) (σ' := ?_) ?_ ?_); rotate_left; (focus (simp [*]; rfl))))))
    refine spl_nil ?_
    refine amStr (h := ?_)
    refine s_regionL ?_
    ((iterate 3 (((with_reducible refine spl_step TT_ok PTv_ok (id := 0) (σ' := ?_) ?_ ?_); rotate_left; (focus (simp [*]; rfl))))))
    refine spl_procB TT_ok rfl rfl rfl (by kernel_rfl) Tryd.func32 (avs := [.v (.int .i64 (k : Int))]) (cs := [.ptr 0 0 0]) rfl rfl (by simp [Tryd.ntmps32]) (key_proc (y := bd + 2) (z := bd + 2 + 1) HK2.out.bx hB hkk (by omega) (fun h => by have := HK2.out.bd _ h; omega) (fun h => by have := HK2.out.bd _ h; omega) (by omega) hbi2) fun av O3 I3 hK => ?_
    obtain ⟨r3, hr3, rfl, g1, g2, g3, g4, g5⟩ := hK
    have HK3 := Lib.hid (HK2.out.key g2 g3 g5)
    have hout := HK2.out.out (r := r3) (by omega)
    clear g2 g3 g5
    ((iterate 2 (((with_reducible refine spl_step TT_ok PTv_ok (id := 0) (σ' := ?_) ?_ ?_); rotate_left; (focus (simp [*]; rfl))))))
    by_cases hs : ((kyK lens k).length : Int) + 16 ≤ M
    · refine spl_procB TT_ok rfl rfl rfl (by kernel_rfl) Tryd.func27 (avs := [.ptr 3 0 0, .ref r3 0 (kyK lens k).length, .v (.int .i64 (1000 + (k : Int)))]) (cs := []) rfl rfl (by simp [Tryd.ntmps27]) (put_yes (x := bd + 2 + 2) HK3.out.ca g1 hout g4 hkb hs (fun h => by have := HK3.out.bd _ h; omega)) fun av O4 I4 hK => ?_
      obtain ⟨rfl, rfl, nm4, p1, p2, p3⟩ := hK
      have HK4 := Lib.hid (HK3.out.put (x := bd + 2 + 2) (Nat.le_refl _) (by omega) p1 p2 p3)
      clear p1 p2 p3
      ((iterate 1 (((with_reducible refine spl_step TT_ok PTv_ok (id := 0) (σ' := ?_) ?_ ?_); rotate_left; (focus (simp [*]; rfl))))))
      refine spl_nil ?_
      refine amStr (h := ?_)
      refine amReg PTv_ok (h := ?_)
      refine amStr (h := ?_)
      refine amReg PTv_ok (h := ?_)
      refine amStr (h := ?_)
      refine ks_lp (⟨(O4, (bd + 2 + 2) :: I3, nm4, bd + 2 + 2 + 1, k + 1), HK4, hkk⟩ : {y : List (Nat × AObj) × List Nat × (Nat → Nat) × Nat × Nat // Hid (KpI M lens y.2.2.2.2 y.1 y.2.1 y.2.2.1 y.2.2.2.1) ∧ y.2.2.2.2 ≤ lens.length}) (by dsimp only; omega) ?_
      exact SubS.of rfl (by simp) rfl rfl
    · refine spl_procB TT_ok rfl rfl rfl (by kernel_rfl) Tryd.func27 (avs := [.ptr 3 0 0, .ref r3 0 (kyK lens k).length, .v (.int .i64 (1000 + (k : Int)))]) (cs := []) rfl rfl (by simp [Tryd.ntmps27]) (put_no HK3.out.ca (by omega) (by omega)) fun av O4 I4 hK => ?_
      obtain ⟨rfl, rfl, rfl⟩ := hK
      have HK4 := Lib.hid (HK3.out.same (by omega))
      ((iterate 1 (((with_reducible refine spl_step TT_ok PTv_ok (id := 0) (σ' := ?_) ?_ ?_); rotate_left; (focus (simp [*]; rfl))))))
      refine spl_nil ?_
      refine amStr (h := ?_)
      refine amReg PTv_ok (h := ?_)
      refine amStr (h := ?_)
      refine amReg PTv_ok (h := ?_)
      refine amStr (h := ?_)
      refine ks_lp (⟨(O4, I4, nm, bd + 2 + 2, k + 1), HK4, hkk⟩ : {y : List (Nat × AObj) × List Nat × (Nat → Nat) × Nat × Nat // Hid (KpI M lens y.2.2.2.2 y.1 y.2.1 y.2.2.1 y.2.2.2.1) ∧ y.2.2.2.2 ≤ lens.length}) (by dsimp only; omega) ?_
      exact SubS.of rfl (by simp) rfl rfl
  · obtain rfl : k = lens.length := by omega
    clear hc
    have hbx := HK.out.bx
    unfold aB at hbx
    have hwl : IntKind.i64.wrap ((lens.length : Int) - 1) = (lens.length : Int) - 1 := i64w (by omega) (by omega)
    refine amStr (h := ?_)
    refine ks_exit ?_
    refine amStr (h := ?_)
    refine amReg PTv_ok (h := ?_)
    refine amStr (h := ?_)
    refine amReg PTv_ok (h := ?_)
    refine amStr (h := ?_)
    refine amReg PTv_ok (h := ?_)
    refine amStr (h := ?_)
    clear hbx
    refine s_loopS (J := fun y : {y : List (Nat × AObj) × List Nat × (Nat → Nat) × Nat × Nat // Hid (KpI M lens lens.length y.1 y.2.1 y.2.2.1 y.2.2.2.1) ∧ y.2.2.2.2 ≤ lens.length} => ⟨138, [(0, .v (.int .u16 x)), (3, .ptr 0 0 0), (4, .v (.bool false)), (5, .ptr 3 0 0), (7, .clo 32 [.ptr 0 0 0]), (11, .v (.int .i64 (M - (useZ (bhK lens M lens.length y.1.2.2.2.2) : Int)))), (12, .v (.int .i64 ((dropZ M.toNat (bhK lens M lens.length y.1.2.2.2.2)).length : Int))), (13, .v (.bool (decide (M < (useZ (bhK lens M lens.length y.1.2.2.2.2) : Int))))), (14, .v (.int .i64 ((y.1.2.2.2.2 : Int) - 1)))], y.1.1, y.1.2.1⟩) (μ := fun y => y.1.2.2.2.2) ⟨(O, I, nm, bd, lens.length), HK, Nat.le_refl _⟩ ?_ (fun ⟨⟨O2, I2, nm2, bd2, k⟩, HK2, hk⟩ => ?_)
    · refine SubS.of rfl ?_ rfl rfl
      have hz : useZ ([] : List (List Int × Int)) = 0 := rfl
      have hdz : dropZ M.toNat ([] : List (List Int × Int)) = [] := rfl
      have hMn : ¬ M < 0 := by omega
      simp [bhK_end, hz, hdz, hMn]
    clear HK
    dsimp only at HK2 hk
    dsimp only
    by_cases hk0 : k = 0
    · subst hk0
      have hlen : (esK lens M lens.length).length = (dropZ M.toNat (bhK lens M lens.length 0)).length := by
        rw [esK_eq]; unfold bhK; rw [List.drop_zero]
      have hm1 : ¬ ((-1 : Int) ≥ 0) := by decide
      refine amStr (h := ?_)
      refine amReg PTv_ok (h := ?_)
      refine amStr (h := ?_)
      refine ks_exit ?_
      refine amStr (h := ?_)
      refine s_regionL ?_
      ((iterate 1 (((with_reducible refine spl_step TT_ok PTv_ok (id := 0) (σ' := ?_) ?_ ?_); rotate_left; (focus (simp [*]; rfl))))))
      refine spl_procB TT_ok rfl rfl rfl (by kernel_rfl) Tryd.func31 (avs := [.ptr 3 0 0]) (cs := []) rfl rfl (by simp [Tryd.ntmps31]) (len_proc HK2.out.ca) fun av O5 I5 hK => ?_
      obtain ⟨rfl, rfl, rfl⟩ := hK
      rw [hlen]
      ((iterate 6 (((with_reducible refine spl_step TT_ok PTv_ok (id := 0) (σ' := ?_) ?_ ?_); rotate_left; (focus (simp [*]; rfl))))))
      refine spl_nil ?_
      refine amStr (h := ?_)
      ((refine post_ret (av := ?_) (by first | exact .inl rfl | exact .inr rfl) (show (Tryd.f8).results.toList = _ from by rw [Tryd.results8]) ?_ ?_); rotate_left; (focus (simp [retA, retL, ret1, lk, st, ldA, AV.cell]; rfl)); (try simp [*]))
    obtain ⟨i, rfl⟩ : ∃ i, k = i + 1 := ⟨k - 1, by omega⟩
    have hik : i < lens.length := by omega
    have hi0 : ¬ ((i : Int) < 0) := by omega
    have hi0' : (0 : Int) ≤ (i : Int) := by omega
    have hwi : IntKind.i64.wrap ((i : Int) - 1) = (i : Int) - 1 := i64w (by omega) (by omega)
    have hwv : IntKind.i64.wrap (1000 + (i : Int)) = 1000 + (i : Int) := i64w (by omega) (by omega)
    have hci : ((i + 1 : Nat) : Int) - 1 = (i : Int) := by omega
    rw [hci]
    have hkl := kyK_len lens i
    have hkb := kyK_okB lens (show i < 256 by omega)
    have hfi := fit_iff (lens := lens) hM0 i
    have hgn := getK_no (lens := lens) (M := M) hik
    have hgy := getK_yes (lens := lens) (M := M) hik
    have hmk := manyK (lens := lens) (M := M) hik
    have huk := useK (lens := lens) (M := M) hik
    have hst := bhK_step lens M hik
    have hub := bhK_use lens M (n := lens.length) (k := i) (by omega)
    have hub2 := bhK_use lens M (n := lens.length) (k := i + 1) (by omega)
    have hmb : ∀ j, (dropZ M.toNat (bhK lens M lens.length j)).length ≤ 60 := fun j => by
      have h1 := (drop_sfx M.toNat (bhK lens M lens.length j)).length_le
      have h2 : (bhK lens M lens.length j).length ≤ lens.length := by
        unfold bhK
        refine Nat.le_trans (List.length_filter_le _ _) ?_
        rw [List.length_drop, entsK_len]; omega
      omega
    have hmb2 := hmb (i + 1)
    clear hmb
    have HGN := Lib.hid hgn
    have HGY := Lib.hid hgy
    have HMK := Lib.hid hmk
    have HUK := Lib.hid huk
    have HST := Lib.hid hst
    have hws : IntKind.i64.wrap (((kyK lens i).length : Int) + 16) = ((kyK lens i).length : Int) + 16 := i64w (by omega) (by omega)
    clear hgn hgy hmk huk hst
    refine amStr (h := ?_)
    refine amReg PTv_ok (h := ?_)
    refine amStr (h := ?_)
    refine s_regionL ?_
    ((iterate 2 (((with_reducible refine spl_step TT_ok PTv_ok (id := 0) (σ' := ?_) ?_ ?_); rotate_left; (focus (simp [*]; rfl))))))
    refine spl_procB TT_ok rfl rfl rfl (by kernel_rfl) Tryd.func32 (avs := [.v (.int .i64 (i : Int))]) (cs := [.ptr 0 0 0]) rfl rfl (by simp [Tryd.ntmps32]) (key_proc (y := bd2) (z := bd2 + 1) HK2.out.bx hB hik (by omega) (fun h => by have := HK2.out.bd _ h; omega) (fun h => by have := HK2.out.bd _ h; omega) (by omega) HK2.out.bi) fun av O3 I3 hK => ?_
    obtain ⟨r, hr, rfl, g1, g2, g3, g4, g5⟩ := hK
    have HK3 := Lib.hid (HK2.out.key g2 g3 g5)
    clear g1 g2 g3 g4 g5
    ((iterate 3 (((with_reducible refine spl_step TT_ok PTv_ok (id := 0) (σ' := ?_) ?_ ?_); rotate_left; (focus (simp [*]; rfl))))))
    refine spl_nil ?_
    refine amStr (h := ?_)
    refine s_regionL ?_
    ((iterate 3 (((with_reducible refine spl_step TT_ok PTv_ok (id := 0) (σ' := ?_) ?_ ?_); rotate_left; (focus (simp [*]; rfl))))))
    refine spl_procB TT_ok rfl rfl rfl (by kernel_rfl) Tryd.func32 (avs := [.v (.int .i64 (i : Int))]) (cs := [.ptr 0 0 0]) rfl rfl (by simp [Tryd.ntmps32]) (key_proc (y := bd2 + 2) (z := bd2 + 2 + 1) HK3.out.bx hB hik (by omega) (fun h => by have := HK3.out.bd _ h; omega) (fun h => by have := HK3.out.bd _ h; omega) (by omega) HK3.out.bi) fun av O4 I4 hK => ?_
    obtain ⟨r3, hr3, rfl, g1, g2, g3, g4, g5⟩ := hK
    have HK5 := Lib.hid (HK3.out.key g2 g3 g5)
    clear g2 g3 g5
    refine spl_procB TT_ok rfl rfl rfl (by kernel_rfl) Tryd.func29 (avs := [.ptr 3 0 0, .ref r3 0 (kyK lens i).length]) (cs := []) rfl rfl (by simp [Tryd.ntmps29]) (get_proc HK5.out.ca g1 hkb) fun av O5 I5 hK => ?_
    obtain ⟨hav, rfl, rfl⟩ := hK
    clear g1 g4
    by_cases hs : ((kyK lens i).length : Int) + 16 ≤ M
    · rw [decide_eq_true hs] at hfi
      have hgv := HGY.out hfi
      have hmv := HMK.out hfi
      have huv := HUK.out hfi
      obtain ⟨V, hV⟩ : ∃ V, useZ (bhK lens M lens.length i) = V := ⟨_, rfl⟩
      obtain ⟨U, hU⟩ : ∃ U, useZ (bhK lens M lens.length (i + 1)) = U := ⟨_, rfl⟩
      obtain ⟨W, hW⟩ : ∃ W, (dropZ M.toNat (bhK lens M lens.length (i + 1))).length = W := ⟨_, rfl⟩
      rw [hV] at hgv hmv huv hub
      rw [hU] at huv hub2
      rw [hW] at hmv hmb2
      rw [hU, hW]
      have hsn : ¬ (M < ((kyK lens i).length : Int) + 16) := by omega
      have hwr : IntKind.i64.wrap (M - (U : Int) - (((kyK lens i).length : Int) + 16)) = M - (V : Int) := by rw [show M - (U : Int) - (((kyK lens i).length : Int) + 16) = M - (V : Int) by omega]; exact i64w (by omega) (by omega)
      have hww : IntKind.i64.wrap ((W : Int) + 1) = (W : Int) + 1 := i64w (by omega) (by omega)
      have HU := Lib.hid hU
      have HW := Lib.hid hW
      clear hU hW HGN HGY HMK HUK HST hfi
      by_cases hvm : V ≤ M.toNat
      · rw [if_pos hvm] at hgv hmv
        rw [hgv] at hav
        subst hav
        have hum : ¬ (M < (U : Int)) := by omega
        have hvm2 : ¬ (M < (V : Int)) := by omega
        have hrs : ¬ (M - (U : Int) < ((kyK lens i).length : Int) + 16) := by omega
        clear huv hub hub2 hgv
        rw [decide_eq_false hum]
        unfold gotZ
        ((iterate 5 (((with_reducible refine spl_step TT_ok PTv_ok (id := 0) (σ' := ?_) ?_ ?_); rotate_left; (focus (simp [*]; rfl))))))
        refine spl_nil ?_
        refine amStr (h := ?_)
        refine amReg PTv_ok (h := ?_)
        refine amStr (h := ?_)
        refine amReg PTv_ok (h := ?_)
        refine amStr (h := ?_)
        refine amReg PTv_ok (h := ?_)
        refine amStr (h := ?_)
        refine amReg PTv_ok (h := ?_)
        refine amStr (h := ?_)
        refine amReg PTv_ok (h := ?_)
        refine amStr (h := ?_)
        refine amReg PTv_ok (h := ?_)
        refine amStr (h := ?_)
        refine amReg PTv_ok (h := ?_)
        refine amStr (h := ?_)
        refine ks_lp (⟨(O5, I5, nm2, bd2 + 2 + 2, i), HK5, Nat.le_of_lt hik⟩ : {y : List (Nat × AObj) × List Nat × (Nat → Nat) × Nat × Nat // Hid (KpI M lens lens.length y.1 y.2.1 y.2.2.1 y.2.2.2.1) ∧ y.2.2.2.2 ≤ lens.length}) (Nat.lt_succ_self i) ?_
        refine SubS.of rfl ?_ rfl rfl
        simp [hV, hmv, hvm2]
      · rw [if_neg hvm] at hgv hmv
        rw [hgv] at hav
        subst hav
        have hvm2 : M < (V : Int) := by omega
        clear hub hub2 hgv
        by_cases hum : M < (U : Int)
        · rw [decide_eq_true hum]
          clear huv
          unfold gotZ
          ((iterate 5 (((with_reducible refine spl_step TT_ok PTv_ok (id := 0) (σ' := ?_) ?_ ?_); rotate_left; (focus (simp [*]; rfl))))))
          refine spl_nil ?_
          refine amStr (h := ?_)
          refine amReg PTv_ok (h := ?_)
          refine amStr (h := ?_)
          refine amReg PTv_ok (h := ?_)
          refine amStr (h := ?_)
          refine amReg PTv_ok (h := ?_)
          refine amStr (h := ?_)
          refine amReg PTv_ok (h := ?_)
          refine amStr (h := ?_)
          refine amReg PTv_ok (h := ?_)
          refine amStr (h := ?_)
          refine amReg PTv_ok (h := ?_)
          refine amStr (h := ?_)
          refine ks_lp (⟨(O5, I5, nm2, bd2 + 2 + 2, i), HK5, Nat.le_of_lt hik⟩ : {y : List (Nat × AObj) × List Nat × (Nat → Nat) × Nat × Nat // Hid (KpI M lens lens.length y.1 y.2.1 y.2.2.1 y.2.2.2.1) ∧ y.2.2.2.2 ≤ lens.length}) (Nat.lt_succ_self i) ?_
          refine SubS.of rfl ?_ rfl rfl
          simp [hV, hmv, HW.out, hvm2]
        · rw [decide_eq_false hum]
          have hrs : M - (U : Int) < ((kyK lens i).length : Int) + 16 := by omega
          clear huv
          unfold gotZ
          ((iterate 5 (((with_reducible refine spl_step TT_ok PTv_ok (id := 0) (σ' := ?_) ?_ ?_); rotate_left; (focus (simp [*]; rfl))))))
          refine spl_nil ?_
          refine amStr (h := ?_)
          refine amReg PTv_ok (h := ?_)
          refine amStr (h := ?_)
          refine amReg PTv_ok (h := ?_)
          refine amStr (h := ?_)
          refine amReg PTv_ok (h := ?_)
          refine amStr (h := ?_)
          refine amReg PTv_ok (h := ?_)
          refine amStr (h := ?_)
          refine amReg PTv_ok (h := ?_)
          refine amStr (h := ?_)
          refine amReg PTv_ok (h := ?_)
          refine amStr (h := ?_)
          refine ks_lp (⟨(O5, I5, nm2, bd2 + 2 + 2, i), HK5, Nat.le_of_lt hik⟩ : {y : List (Nat × AObj) × List Nat × (Nat → Nat) × Nat × Nat // Hid (KpI M lens lens.length y.1 y.2.1 y.2.2.1 y.2.2.2.1) ∧ y.2.2.2.2 ≤ lens.length}) (Nat.lt_succ_self i) ?_
          refine SubS.of rfl ?_ rfl rfl
          simp [hV, hmv, HW.out, hvm2]
    · rw [decide_eq_false hs] at hfi
      have hgv := HGN.out hfi
      have hsv := HST.out
      rw [hfi, if_neg (by decide)] at hsv
      rw [hgv] at hav
      subst hav
      rw [← hsv]
      have hsn : M < ((kyK lens i).length : Int) + 16 := by omega
      have HSV := Lib.hid hsv
      clear HGN HGY HMK HUK HST hfi hgv
      unfold gotZ
      ((iterate 5 (((with_reducible refine spl_step TT_ok PTv_ok (id := 0) (σ' := ?_) ?_ ?_); rotate_left; (focus (simp [*]; rfl))))))
      refine spl_nil ?_
      refine amStr (h := ?_)
      refine amReg PTv_ok (h := ?_)
      refine amStr (h := ?_)
      refine amReg PTv_ok (h := ?_)
      refine amStr (h := ?_)
      refine amReg PTv_ok (h := ?_)
      refine amStr (h := ?_)
      refine ks_lp (⟨(O5, I5, nm2, bd2 + 2 + 2, i), HK5, Nat.le_of_lt hik⟩ : {y : List (Nat × AObj) × List Nat × (Nat → Nat) × Nat × Nat // Hid (KpI M lens lens.length y.1 y.2.1 y.2.2.1 y.2.2.2.1) ∧ y.2.2.2.2 ≤ lens.length}) (Nat.lt_succ_self i) ?_
      refine SubS.of rfl ?_ rfl rfl
      simp [hsv]
theorem canonKept_p (x : Int) (lens : List Int) (hx0 : 0 ≤ x) (hx1 : x ≤ 65535) (hB : okB lens = true) : FnPure Tryd.prog 8 [.v (.int .u16 x), aB lens] (.v (.bool true)) := by
  by_cases hl : lens.length ≤ 60
  · exact kept_ok x lens hx0 hx1 hB hl
  · have hli : 60 < (lens.length : Int) := by omega
    unfold aB
    refine fn_sp TT_ok Tryd.func8 (c := _) rfl (by simp [Tryd.ntmps8]) (fun B hI0 hro => ?_)
    rw [Tryd.ntmps8]
    simp only [enumA]
    refine amGo PTv_ok (h := ?_)
    ((refine post_ret (av := ?_) (by first | exact .inl rfl | exact .inr rfl) (show (Tryd.f8).results.toList = _ from by rw [Tryd.results8]) ?_ ?_); rotate_left; (focus (simp [retA, retL, ret1, lk, st, ldA, AV.cell]; rfl)); (try simp [*]))
namespace canonKept
set_option maxRecDepth 100000
theorem contract (H : Type) (enc : TypeId × Value → H) (W : World) (base : Nat) (args : Array Value) (ds gs : List (DataW H)) (before : List MemPlace)
    (hval0 : ∀ (j : Nat) t v, (Go.Proofs.Tryd.f8).params[j]? = some t → args[j]? = some v → Value.okWide Tryd.prog W .any base t v)
    (hW : DataW.Whole enc Tryd.prog (Go.Proofs.Tryd.f8).params.toList Rows.canonKeptSpec.vars false W args.toList ds gs before) (hL : laidMetH Tryd.prog Rows.canonKeptRow.laid W) :
    Calls Tryd.prog 8 args W fun e W' => ∃ v, e = .returned v ∧ Rows.canonKeptSpec.post enc Tryd.prog Go.Proofs.Tryd.f8 false true false false W args v W' := by
  have hval : ∀ (j : Nat) t v, (Go.Proofs.Tryd.f8).params[j]? = some t → args[j]? = some v → Value.okWide Tryd.prog W .any base t v := hval0
  have hW2 := hW
  obtain ⟨p, q, hA0, hV, _, _, _⟩ := hW
  have hA : DataW.TrodAll enc Tryd.prog W 0 (fun _ => true) true (Go.Proofs.Tryd.f8).params.toList args.toList ds p := hA0
  rw [Tryd.params8] at hA hval
  clear hA0 hval0
  obtain ⟨rfl, _⟩ := trodVars_none hV
  obtain ⟨v0, vs0, d0, ds0, p0, q0, hargs, rfl, _, h0, r0⟩ := trodAll_cons hA
  obtain ⟨v1, vs1, d1, ds1, p1, q1, rfl, rfl, _, h1, r1⟩ := trodAll_cons r0
  obtain ⟨rfl, rfl, _⟩ := trodAll_nil r1
  obtain rfl : args = #[v0, v1] := by cases args; simp_all
  obtain ⟨x, ra0, l0, u0⟩ := arg_u16 (hval 0 _ v0 rfl rfl) h0
  obtain ⟨lens, ra1, oB1, oL1⟩ := arg_bytes (hval 1 _ v1 rfl rfl) h1
  refine law_of_pure (glob_of_laid hL) (avs := [.v (.int .u16 x), aB lens]) (by kernel_rfl) hW2 rfl (rec_ok (by kernel_rfl)) (tb := 4) rfl Tryd.underlying4 rfl rfl rfl rfl (fun i hi => ?_) (canonKept_p x lens l0 u0 oB1)
  match i, hi with
  | 0, _ => exact ra0
  | 1, _ => exact ra1
theorem laid_met (os : Os) : laidMet Tryd.prog Rows.canonKeptRow.laid ((laidWorld os).forCall (fun _ _ => 0) ⟨#[], #[.int .u16 0, .slice none 0 0], []⟩).memory :=
  laidMet_of_run' 8 (by kernel_rfl) (by kernel_rfl)
theorem lifted (os : Os) (started : os.Started) (H : Type) (enc : TypeId × Value → H) (F : Stop.Interp) :
    ReturnsInHanded {} Tryd.checked os 8 .any ((OpenSpec.ofChange Rows.canonKeptSpec).preRow enc Tryd.prog Go.Proofs.Tryd.f8 Rows.canonKeptRow.domain false Rows.canonKeptRow.laid) (((OpenSpec.ofChange Rows.canonKeptSpec).at F).post enc Tryd.prog Go.Proofs.Tryd.f8 false true false false) := by
  refine returnsInHanded_of_row (C := Tryd.checked) (s := OpenSpec.ofChange Rows.canonKeptSpec) (by kernel_rfl) started (by kernel_rfl) Tryd.func8
    (witness_row_at (enc := enc) (C := Tryd.checked) false (laidWorld os) #[.int .u16 0, .slice none 0 0] rfl (by kernel_rfl) (by kernel_rfl) (by kernel_rfl)
      (OpenSpec.preRow_of_cond 8 (show DataW.whole enc Tryd.prog ((laidWorld os).forCall (fun _ _ => 0) ⟨#[], #[.int .u16 0, .slice none 0 0], []⟩).memory (Go.Proofs.Tryd.f8).params.toList Rows.canonKeptSpec.vars false (#[.int .u16 0, .slice none 0 0] : Array Value).toList 8 = some ([.lit (.int .u16 0), .nil], [], []) by kernel_rfl) (by kernel_rfl) (fun k hk => by cases hk) (by kernel_rfl) (laid_met os))) ?_
  intro W base args ds gs before hval hW _ _ _ hL _ _
  exact contract H enc W base args ds gs before hval hW hL
theorem said : Rows.CanonKeptSaid :=
  OpenClaim.holds_of_cond 8 Go.Proofs.Tryd.f8 rfl rfl rfl rfl rfl rfl rfl ⟨rfl, rfl, rfl, rfl, rfl⟩ rfl rfl rfl rfl rfl (by kernel_rfl) Tryd.func8 (by kernel_rfl)
    (of_decide_eq_true (by kernel_rfl)) (by unfold Func.isWrapper; first | (rw [if_pos (by decide +kernel)]; kernel_rfl) | (rw [if_neg (by decide +kernel)]; exact ⟨rfl, rfl⟩))
    (fun os started H enc _ F => by rw [OpenClaim.pre_eq_preRow]; exact lifted os started H enc F)
theorem plain (f : FuncId) (fn : Func) (hf : Tryd.pinned.checked.prog.funcNamed "census/censuslaw17.CanonKept" = some f) (hfn : Tryd.pinned.checked.prog.funcs[f]? = some fn) :
    false = Tryd.pinned.checked.prog.looks [] ∧ ∀ (j : Nat) t, fn.params[j]? = some t → Tryd.pinned.checked.prog.wantsStandIn t = false := by
  obtain rfl : f = 8 := Option.some.inj ((show Tryd.prog.funcNamed "census/censuslaw17.CanonKept" = some 8 by kernel_rfl).symm.trans hf) |>.symm
  obtain rfl : fn = Go.Proofs.Tryd.f8 := (Option.some.inj (Tryd.func8.symm.trans hfn)).symm
  refine ⟨by kernel_rfl, fun j t ht => ?_⟩
  rw [Tryd.params8] at ht
  have hall : (Tryd.checked.prog.funcs[8]?).all (fun g => g.params.toList.all fun t => !(Tryd.checked.prog.wantsStandIn t)) = true := by kernel_rfl
  rw [show Tryd.checked.prog.funcs[8]? = some Go.Proofs.Tryd.f8 from Tryd.func8] at hall
  have h2 : ∀ t ∈ (Go.Proofs.Tryd.f8).params.toList, (!(Tryd.checked.prog.wantsStandIn t)) = true := List.all_eq_true.1 hall
  have hm : t ∈ (Go.Proofs.Tryd.f8).params.toList := by rw [Tryd.params8]; exact Array.mem_toList_iff.2 (Array.mem_of_getElem? ht)
  have h3 : Tryd.checked.prog.wantsStandIn t = false := by simpa using h2 t hm
  exact h3
theorem proved : Rows.CanonKeptCardSaid :=
  Claim7.holds_tied_plain_at .later [] _ _ _ _ said (fun _ h => by cases h) (by kernel_rfl) (fun _ h => by cases h) canonKept_row_tie rfl ⟨rfl, rfl⟩ (by kernel_rfl) rfl plain (by kernel_rfl)
end canonKept
end Go.Proofs.YtafikekndefjcaaDoor
