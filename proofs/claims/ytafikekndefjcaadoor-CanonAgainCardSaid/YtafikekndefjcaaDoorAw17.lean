/- CanonAgain: keys put again. -/
import Derived.Test.YtafikekndefjcaaDoorAg17
import Derived.Test.YtafikekndefjcaaDoorWa
import Derived.Test.YtafikekndefjcaaDoorWd
import Derived.Test.YtafikekndefjcaaDoorLd
namespace Go.Proofs.YtafikekndefjcaaDoor
set_option linter.unusedVariables false
set_option linter.unusedSimpArgs false
set_option linter.unusedSectionVars false
open Go.RowKit Go.WideShapes Go.ChangeShapes Go.ChangeAt
attribute [local simp] List.getD_cons_zero List.getD_cons_succ List.getD_nil undef gvars runL runE effA stepA dstOk wantA core lk st dl AS.ev AS.evs AS.put AS.upd updO updI nxt cPick cAlloc cBox cBuild cBuildS cLoad cStore cNil plainOf cBin cNilS isNilS nilA cUn cConvX cConvB cConv bytesOf rowB cMake cSlice slA idxA cFA cF cIA cIX cIS cI cExt cLen cApp cMM cFun cCall lenA lenM isNilM nilM cNilM cMakeM hintB cMapK cLook foundR lookR cUpd putM cDel delM findA isKeyB Instr.sameNow AS.entry AS.bound AS.callee sc1 sc2 ixOk ldA AV.flat AV.cell AV.cells Value.oneCell' fillA spl chunk zeros AS.parts AS.rows AS.shut AS.shut1 AS.shut2 AS.shutL AS.shutM AV.ids idsL idsLL eqAll bndA AV.scalar AV.scalar1 AV.isV Ef.app Ef.pk ptOf pntO wrO wr
attribute [-simp] List.getD_eq_getElem?_getD
set_option maxRecDepth 100000
attribute [local simp] lk_st
set_option maxHeartbeats 8000000 in
theorem again_ok (x : Int) (keys : List Int) (hx0 : 0 ≤ x) (hx1 : x ≤ 65535) (hB : okB keys = true) (hl : keys.length ≤ 60) : FnPure Tryd.prog 9 [aB keys, .v (.int .u16 x)] (.v (.bool true)) := by
  obtain ⟨M, hM⟩ : ∃ M, x.tmod 400 = M := ⟨_, rfl⟩
  have hM2 : M = x % 400 := by rw [← hM, Int.tmod_eq_emod_of_nonneg hx0]
  have hM0 : 0 ≤ M := by omega
  have hM1 : M < 400 := by omega
  have hw1 : IntKind.u16.wrap M = M := by rw [IntKind.wrap_u16]; omega
  have hw2 : IntKind.i64.wrap M = M := i64w (by omega) (by omega)
  obtain ⟨F, hF⟩ : ∃ F, M.toNat / 17 = F := ⟨_, rfl⟩
  have hMF : M.tdiv 17 = (F : Int) := by
    rw [Int.tdiv_eq_ediv_of_nonneg hM0]; omega
  have hF1 : F ≤ 24 := by omega
  have hw3 : IntKind.i64.wrap (F : Int) = (F : Int) := i64w (by omega) (by omega)
  clear hM2
  have hli : ¬ (60 < (keys.length : Int)) := by omega
  unfold aB
  refine fn_spD TT_ok Tryd.func9 (c := _) rfl (by simp [Tryd.ntmps9]) (fun B hI0 hro hBD => ?_)
  rw [Tryd.ntmps9]
  simp only [enumA]
  refine adStr (h := ?_)
  refine adReg PTv_ok (h := ?_)
  refine adStr (h := ?_)
  refine adReg PTv_ok (h := ?_)
  refine adStr (h := ?_)
  refine d_regionL ?_
  ((iterate 3 (((with_reducible refine dl_step TT_ok PTv_ok (id := 0) (σ' := ?_) ?_ ?_); rotate_left; (focus (simp [*]; rfl))))))
  refine dl_procB TT_ok rfl rfl rfl (by kernel_rfl) Tryd.func25 (avs := [.v (.int .i64 M)]) (cs := []) rfl rfl (by simp [Tryd.ntmps25]) (new_proc (c := 3) (m := 1) (s := 2) hM0 (by omega) (by simp) (by simp) (by simp) (by omega) (by omega) (by omega)) fun av O1 I1 hK => ?_
  obtain ⟨rfl, rfl, k1, k2⟩ := hK
  ((iterate 5 (((with_reducible refine dl_step TT_ok PTv_ok (id := 0) (σ' := ?_) ?_ ?_); rotate_left; (focus (simp [*]; rfl))))))
  refine dl_nil ?_
  refine adStr (h := ?_)
  refine adReg PTv_ok (h := ?_)
  refine adStr (h := ?_)
  refine d_regionL ?_
  (((with_reducible refine dl_step TT_ok PTv_ok (id := 4) (σ' := ?_) ?_ ?_); rotate_left; (focus (simp [*]; rfl))))
  ((iterate 1 (((with_reducible refine dl_step TT_ok PTv_ok (id := 0) (σ' := ?_) ?_ ?_); rotate_left; (focus (simp [*]; rfl))))))
  refine dl_nil ?_
  have hKp : AgI M keys 0 0 (st O1 4 (mpA [])) [4, 3, 2, 1] (fun _ => 2) 5 := ⟨(k1.monoN (O1 := st O1 4 (mpA [])) fun q hq => by rw [lk_st, if_neg (Ne.symm (out_ne (nm := fun _ => 2) (n := 0) ⟨by decide, by decide, fun _ _ => by show (4 : Nat) ≠ 2; decide⟩ hq))]).mono (fun _ _ => rfl) (fun q hq => List.mem_cons_of_mem _ hq), by rw [lk_st, if_pos rfl]; rfl, ⟨by decide, by decide, fun _ _ => by show (4 : Nat) ≠ 2; decide⟩, by simp, fun q hq => by simp at hq; omega⟩
  have HKp := Lib.hid hKp
  clear hKp k1 k2
  refine adStr (h := ?_)
  refine adReg PTv_ok (h := ?_)
  refine adStr (h := ?_)
  refine d_loopS (J := fun y : {y : List (Nat × AObj) × List Nat × (Nat → Nat) × Nat × Nat // Hid (AgI M keys y.2.2.2.2 y.2.2.2.2 y.1 y.2.1 y.2.2.1 y.2.2.2.1) ∧ y.2.2.2.2 ≤ keys.length} => ⟨104, [(4, .v (.bool false)), (5, .ptr 3 0 0), (7, .v (.int .i64 (F : Int))), (8, .mp 4), (34, .sl 1 (keys.map fun x => [.v (.int .u8 x)])), (35, .v (.int .i64 (keys.length : Int))), (36, .v (.int .i64 (y.1.2.2.2.2 : Int)))], y.1.1, y.1.2.1⟩) (μ := fun y => keys.length - y.1.2.2.2.2) ⟨(_, [4, 3, 2, 1], fun _ => 2, 5, 0), HKp, Nat.zero_le _⟩ ?_ (fun ⟨⟨O, I, nm, bd, k⟩, HK, hk⟩ => ?_)
  · exact SubS.of rfl (by simp) rfl rfl
  clear HKp
  dsimp only at HK hk
  dsimp only
  refine adStr (h := ?_)
  refine adReg PTv_ok (h := ?_)
  refine adStr (h := ?_)
  (focus ((with_reducible refine d_cond (b := ?_) ?_ (fun hc => ?_) (fun hc => ?_)); rotate_left; (focus (first | rfl | (simp [lk, AS.ev]; rfl))); all_goals (try simp at hc)))
  · have hkk : k < keys.length := by omega
    clear hc
    have hki : (k : Int) < (keys.length : Int) := by omega
    have hwk : IntKind.i64.wrap ((k : Int) + 1) = (k : Int) + 1 := i64s k (by omega)
    have hget : (keys.map fun x => [AV.v (.int .u8 x)]).getD k [] = [.v (.int .u8 (keys.getD k 0))] := by simp [List.getD, hkk]
    have hkb : okB [keys.getD k 0] = true := by
      have hv : 0 ≤ keys.getD k 0 ∧ keys.getD k 0 < 256 := by
        unfold okB at hB
        rw [List.all_eq_true] at hB
        have e : keys.getD k 0 = keys[k] := by simp [List.getD, hkk]
        have := hB _ (List.getElem_mem hkk)
        rw [Bool.and_eq_true, decide_eq_true_eq, decide_eq_true_eq] at this
        rw [e]; exact this
      unfold okB
      simp only [List.all_cons, List.all_nil, Bool.and_true, Bool.and_eq_true, decide_eq_true_eq]
      exact hv
    have hfr := find_rows (keys.getD k 0) (rowsA keys k) 0
    have hpr := put_rows (keys.getD k 0) (k : Int) (rowsA keys k)
    obtain ⟨u, hu⟩ : ∃ u, keys.getD k 0 = u := ⟨_, rfl⟩
    rw [hu] at hkb hget hfr hpr
    have hfr0 : findA (.int .u8) (.int .u8 u) ((rowsA keys k).map rowV) 0 = some (posR u (rowsA keys k)) := by simpa using hfr
    have HU := Lib.hid hu
    have HPR := Lib.hid hpr
    clear hu hpr hfr
    refine adStr (h := ?_)
    refine adReg PTv_ok (h := ?_)
    refine adStr (h := ?_)
    have h4I := HK.out.bi
    have hb4 : ¬ bd = 4 := by have := HK.out.bd 4 h4I; omega
    have hb4' : ¬ 4 = bd := fun e => hb4 e.symm
    have hbI : bd ∉ I := fun h => by have := HK.out.bd _ h; omega
    have HK1 := Lib.hid (HK.out.key (O1 := st O bd (u8O [u])) fun q hq => by rw [lk_st, if_neg (Ne.symm hq)])
    have hlk1 : lk (st O bd (u8O [u])) bd = some (u8O [u]) := by rw [lk_st, if_pos rfl]
    have hout := HK.out.outb
    have hx1 : bd + 1 ∉ bd :: I := fun h => by have := HK1.out.bd _ h; omega
    refine d_regionL ?_
    ((iterate 2 (((with_reducible refine dl_step TT_ok PTv_ok (id := 0) (σ' := ?_) ?_ ?_); rotate_left; (focus (simp [*]; rfl))))))
    (((with_reducible refine dl_step TT_ok PTv_ok (id := bd) (σ' := ?_) ?_ ?_); rotate_left; (focus (simp [*]; rfl))))
    ((iterate 1 (((with_reducible refine dl_step TT_ok PTv_ok (id := 0) (σ' := ?_) ?_ ?_); rotate_left; (focus (simp [*]; rfl))))))
    by_cases hs : 17 ≤ M
    · have hF0 : 0 < F := by omega
      refine dl_procB TT_ok rfl rfl rfl (by kernel_rfl) Tryd.func27 (avs := [.ptr 3 0 0, .ref bd 0 1, .v (.int .i64 (k : Int))]) (cs := []) rfl rfl (by simp [Tryd.ntmps27]) (put_yes (x := bd + 1) (ks := [u]) HK1.out.ca hlk1 hout List.mem_cons_self hkb (by simpa using hs) hx1) fun av O4 I4 hK => ?_
      obtain ⟨rfl, rfl, nm4, p1, p2, p3⟩ := hK
      have HK4 := Lib.hid (HK1.out.put (x := bd + 1) (nm' := nm4) (by omega) (by omega) (by rw [HU.out]; exact p1) (by rw [HU.out]; exact p2) p3)
      clear p1 p2 p3
      ((iterate 4 (((with_reducible refine dl_step TT_ok PTv_ok (id := 0) (σ' := ?_) ?_ ?_); rotate_left; (focus (simp [*]; rfl))))))
      refine dl_nil ?_
      refine adStr (h := ?_)
      have HK5 := Lib.hid HK4.out.map
      have hmp := HK4.out.mp
      unfold mpA at hmp
      refine d_regionL ?_
      ((iterate 3 (((with_reducible refine dl_step TT_ok PTv_ok (id := 0) (σ' := ?_) ?_ ?_); rotate_left; (focus (simp [*]; rfl))))))
      ((iterate 1 (((with_reducible refine dl_step TT_ok PTv_ok (id := 0) (σ' := ?_) ?_ ?_); rotate_left; (focus (simp [*]; rfl))))))
      refine dl_nil ?_
      refine adStr (h := ?_)
      refine adReg PTv_ok (h := ?_)
      refine adStr (h := ?_)
      refine ks_lp (⟨(_, (bd + 1) :: bd :: I, nm4, bd + 1 + 1, k + 1), HK5, hkk⟩ : {y : List (Nat × AObj) × List Nat × (Nat → Nat) × Nat × Nat // Hid (AgI M keys y.2.2.2.2 y.2.2.2.2 y.1 y.2.1 y.2.2.1 y.2.2.2.1) ∧ y.2.2.2.2 ≤ keys.length}) (by dsimp only; omega) ?_
      refine SubS.of rfl (by simp) ?_ rfl
      show _ = st O4 4 (mpA (updR (keys.getD k 0) (k : Int) (rowsA keys k)))
      unfold mpA
      rw [HU.out, ← HPR.out]
      rfl
    · have hF0 : ¬ 0 < F := by omega
      refine dl_procB TT_ok rfl rfl rfl (by kernel_rfl) Tryd.func27 (avs := [.ptr 3 0 0, .ref bd 0 1, .v (.int .i64 (k : Int))]) (cs := []) rfl rfl (by simp [Tryd.ntmps27]) (put_no (ks := [u]) HK1.out.ca (by simp) (by simp; omega)) fun av O4 I4 hK => ?_
      obtain ⟨rfl, rfl, rfl⟩ := hK
      have HK4 := Lib.hid (HK1.out.same (by omega))
      ((iterate 4 (((with_reducible refine dl_step TT_ok PTv_ok (id := 0) (σ' := ?_) ?_ ?_); rotate_left; (focus (simp [*]; rfl))))))
      refine dl_nil ?_
      refine adStr (h := ?_)
      have HK5 := Lib.hid HK4.out.map
      have hmp := HK.out.mp
      unfold mpA at hmp
      refine d_regionL ?_
      ((iterate 3 (((with_reducible refine dl_step TT_ok PTv_ok (id := 0) (σ' := ?_) ?_ ?_); rotate_left; (focus (simp [*]; rfl))))))
      ((iterate 1 (((with_reducible refine dl_step TT_ok PTv_ok (id := 0) (σ' := ?_) ?_ ?_); rotate_left; (focus (simp [*]; rfl))))))
      refine dl_nil ?_
      refine adStr (h := ?_)
      refine adReg PTv_ok (h := ?_)
      refine adStr (h := ?_)
      refine ks_lp (⟨(_, bd :: I, nm, bd + 1, k + 1), HK5, hkk⟩ : {y : List (Nat × AObj) × List Nat × (Nat → Nat) × Nat × Nat // Hid (AgI M keys y.2.2.2.2 y.2.2.2.2 y.1 y.2.1 y.2.2.1 y.2.2.2.1) ∧ y.2.2.2.2 ≤ keys.length}) (by dsimp only; omega) ?_
      refine SubS.of rfl (by simp) ?_ rfl
      show _ = st (st O bd (u8O [u])) 4 (mpA (updR (keys.getD k 0) (k : Int) (rowsA keys k)))
      unfold mpA
      rw [HU.out, ← HPR.out]
      rfl
  · obtain rfl : k = keys.length := by omega
    clear hc
    refine adStr (h := ?_)
    refine ks_exit ?_
    refine k_blk_exit ?_
    clear hk
    refine kd_seq ?_
    have hmp := HK.out.mp
    refine d_freeze hBD (k := 4) (ob := mpA (rowsA keys keys.length)) (rows := (rowsA keys keys.length).map toV) hmp rfl (by rw [List.map_map]; rfl) fun B2 hBD2 hro2 hI2 hF2 => ?_
    have HF := Lib.hid HK.out.frz
    have hkt : bd ∉ I := fun h => by have := HK.out.bd _ h; omega
    clear HK hmp
    refine d_seq ?_
    refine d_rangeM (kit := bd) (rows := (rowsA keys keys.length).map toV) (σ1 := ?s1) TT_ok PTv_ok (fun y : {y : List (Nat × AObj) × List Nat × Nat × List (Int × Int) // Hid (AgF M keys keys.length bd y.1 y.2.1 nm y.2.2.1 y.2.2.2)} => ⟨104, [(4, .v (.bool false)), (5, .ptr 3 0 0), (7, .v (.int .i64 (F : Int))), (8, .mp 4), (55, .ptr bd 0 0)], y.1.1, y.1.2.1⟩) (fun y => y.1.2.2.2.map toV) ⟨(_, _, _, _), HF⟩ hBD2 hF2 rfl rfl (q := 0) ?hM ?hRd ?hRw rfl rfl ?hx Tryd.underlying68 ?hkit rfl rfl rfl rfl rfl rfl ?hJ ?h0 rfl ?hexit ?round
    case hM => simp [*]; rfl
    case hRd => rfl
    case hRw => rfl
    case hx => rfl
    case hkit => exact hkt
    case hJ => exact fun y => ⟨by show (56 : Nat) < 104; decide, by show (57 : Nat) < 104; decide, by decide, by decide, rfl⟩
    case h0 => exact SubS.of rfl (by simp) rfl rfl
    case hexit =>
      intro ⟨⟨O2, I2, bd2, L⟩, HF2⟩ hL
      clear HF
      dsimp only at HF2 hL
      have hlen := esA_len keys M keys.length
      rw [hF] at hlen
      obtain ⟨T, hT⟩ : ∃ T, (esA keys M keys.length).length = T := ⟨_, rfl⟩
      have hpr := len_proc HF2.out.ca
      rw [hT] at hlen hpr
      have HPR := Lib.hid hpr
      clear hpr hT
      have hle : (T : Int) ≤ (F : Int) := by omega
      unfold nxS
      refine adStr (h := ?_)
      refine d_regionL ?_
      ((iterate 1 (((with_reducible refine dl_step TT_ok PTv_ok (id := 0) (σ' := ?_) ?_ ?_); rotate_left; (focus (simp [*]; rfl))))))
      refine dl_procB TT_ok rfl rfl rfl (by kernel_rfl) Tryd.func31 (avs := [.ptr 3 0 0]) (cs := []) rfl rfl (by simp [Tryd.ntmps31]) HPR.out fun av O5 I5 hK => ?_
      obtain ⟨rfl, rfl, rfl⟩ := hK
      clear HPR
      ((iterate 6 (((with_reducible refine dl_step TT_ok PTv_ok (id := 0) (σ' := ?_) ?_ ?_); rotate_left; (focus (simp [*]; rfl))))))
      refine dl_nil ?_
      refine adStr (h := ?_)
      ((refine post_ret (av := ?_) (by first | exact .inl rfl | exact .inr rfl) (show (Tryd.f9).results.toList = _ from by rw [Tryd.results9]) ?_ ?_); rotate_left; (focus (simp [retA, retL, ret1, lk, st, ldA, AV.cell]; rfl)); (try simp [*]))
    case round =>
      intro ⟨⟨O2, I2, bd2, L⟩, HF2⟩ l1 e l2 hsp B3 hBD3 hro3 hI3 hF3 hE3
      clear HF
      dsimp only at HF2 hsp hI3
      obtain ⟨L1, Le, rfl, rfl, hLe⟩ := List.map_eq_append_iff.1 hsp
      obtain ⟨⟨pk, pv⟩, L2, rfl, rfl, rfl⟩ := List.map_eq_cons_iff.1 hLe
      have hp : (pk, pv) ∈ rowsA keys keys.length := HF2.out.sub _ (by simp)
      have hval := rows_val hp
      have hkey := rows_key hB (Nat.le_refl _) hp
      have hg := again_get (M := M) hp
      have hrl := rows_len keys keys.length
      rw [hF] at hg
      dsimp only at hval hkey hg
      have hkb : okB [pk] = true := by
        unfold okB
        simp only [List.all_cons, List.all_nil, Bool.and_true, Bool.and_eq_true, decide_eq_true_eq]
        exact hkey
      obtain ⟨T, hT⟩ : ∃ T, cntA pv (rowsA keys keys.length) = T := ⟨_, rfl⟩
      have hT60 : T ≤ 60 := by
        rw [← hT]; unfold cntA
        exact Nat.le_trans (List.length_filter_le _ _) (Nat.le_trans hrl hl)
      rw [hT] at hg
      have HG := Lib.hid hg
      have HT := Lib.hid hT
      clear hg hT
      have hit : bd2 ∉ I2 := fun h => by have := HF2.out.bd _ h; omega
      have hrows : (rowsA keys keys.length).length ≤ 60 := Nat.le_trans hrl hl
      clear hrl hsp hLe
      unfold nxS
      dsimp only
      refine adStr (h := ?_)
      refine d_regionL ?_
      refine dl_opI (s := (.tup [.v (.int .u8 pk), .v (.int .i64 pv)], [])) rfl rfl (ok_entry hE3 rfl rfl) ?_
      (refine dl_eq (τ := ?_) ?_ ?_; rotate_left; (focus ((try simp only [AS.frz, List.map_cons, List.map_nil]); (try simp [frzV, frzO, frzC, List.filter]); rfl)))
      ((iterate 4 (((with_reducible refine dl_step TT_ok PTv_ok (id := 0) (σ' := ?_) ?_ ?_); rotate_left; (focus (simp [*]; rfl))))))
      refine dl_nil ?_
      refine adStr (h := ?_)
      refine adReg PTv_ok (h := ?_)
      refine kd_seq ?_
      refine d_seq ?_
      refine d_rangeM (kit := bd2) (rows := (rowsA keys keys.length).map toV) (σ1 := ?s2) TT_ok PTv_ok (fun y : {L : List (Int × Int) // L.length ≤ 60} => ⟨104, [(4, .v (.bool false)), (5, .ptr 3 0 0), (7, .v (.int .i64 (F : Int))), (8, .mp 4), (55, .ptr bd 0 0), (11, .v (.int .u8 pk)), (12, .v (.int .i64 pv)), (13, .v (.int .i64 ((T : Int) - (cntA pv y.1 : Int)))), (62, .ptr bd2 0 0)], O2, bd2 :: I2⟩) (fun y => y.1.map toV) ⟨rowsA keys keys.length, hrows⟩ hBD3 hF3 rfl rfl (q := 0) ?ihM ?ihRd ?ihRw rfl rfl ?ihx Tryd.underlying68 ?ihkit rfl rfl rfl rfl rfl rfl ?ihJ ?ih0 rfl ?ihexit ?iround
      case ihM => simp [*]; rfl
      case ihRd => rfl
      case ihRw => rfl
      case ihx => rfl
      case ihkit => exact hit
      case ihJ => exact fun y => ⟨by show (63 : Nat) < 104; decide, by show (64 : Nat) < 104; decide, by decide, by decide, rfl⟩
      case ih0 =>
        refine SubS.of rfl ?_ rfl rfl
        dsimp only
        rw [HT.out, Int.sub_self]
        simp
      case ihexit =>
        intro ⟨L, hL⟩ hLn
        dsimp only at hLn
        obtain rfl := List.map_eq_nil_iff.1 hLn
        unfold nxS
        dsimp only
        rw [show ((T : Int) - ((cntA pv [] : Nat) : Int)) = (T : Int) from by simp [cntA]]
        obtain ⟨z, hz⟩ : ∃ z, bd2 + 1 = z := ⟨_, rfl⟩
        have hz1 : ¬ z = bd2 := by omega
        have hz2 : z ∉ I2 := fun h => by have := HF2.out.bd _ h; omega
        have HC := HF2.out.ca.mono (O' := st O2 z (u8O [pk])) (I' := z :: bd2 :: I2) (fun q hq => by rw [lk_st, if_neg (show ¬ z = q from fun e => hz2 (by rw [e]; exact hq))]) (fun q hq => by simp [hq])
        have hlz : lk (st O2 z (u8O [pk])) z = some (u8O [pk]) := by rw [lk_st, if_pos rfl]
        have HF6 : Hid (AgF M keys keys.length bd (st O2 z (u8O [pk])) (z :: bd2 :: I2) nm (z + 1) (L1 ++ L2)) := Lib.hid (HF2.out.more (fun q hq => by
          rcases List.mem_cons.1 hq with rfl | hq
          · omega
          · rcases List.mem_cons.1 hq with rfl | hq
            · omega
            · have := HF2.out.bd _ hq; omega) (fun q hq => by simp [hq]) (by omega) (fun q hq => by rw [lk_st, if_neg (by omega)]) (fun q hq => by
          rcases List.mem_append.1 hq with h | h
          · exact List.mem_append_left _ h
          · exact List.mem_append_right _ (List.mem_cons_of_mem _ h)))
        have HPR := Lib.hid (get_proc (kk := z) (ks := [pk]) HC hlz hkb)
        clear hz HC hlz
        refine adStr (h := ?_)
        refine d_regionL ?_
        ((iterate 2 (((with_reducible refine dl_step TT_ok PTv_ok (id := 0) (σ' := ?_) ?_ ?_); rotate_left; (focus (simp [*]; rfl))))))
        (((with_reducible refine dl_step TT_ok PTv_ok (id := z) (σ' := ?_) ?_ ?_); rotate_left; (focus (simp [*]; rfl))))
        refine dl_procB TT_ok rfl rfl rfl (by kernel_rfl) Tryd.func29 (avs := [.ptr 3 0 0, .ref z 0 1]) (cs := []) rfl rfl (by simp [Tryd.ntmps29]) HPR.out fun av O5 I5 hK => ?_
        obtain ⟨hav, rfl, rfl⟩ := hK
        rw [HG.out] at hav
        clear HPR
        by_cases hlt : T < F
        · rw [if_pos hlt] at hav
          subst hav
          unfold gotZ
          ((iterate 5 (((with_reducible refine dl_step TT_ok PTv_ok (id := 0) (σ' := ?_) ?_ ?_); rotate_left; (focus (simp [*]; rfl))))))
          refine dl_nil ?_
          refine adStr (h := ?_)
          refine adReg PTv_ok (h := ?_)
          refine adStr (h := ?_)
          refine adReg PTv_ok (h := ?_)
          refine adStr (h := ?_)
          refine km_lp ⟨(st O2 z (u8O [pk]), z :: bd2 :: I2, z + 1, L1 ++ L2), HF6⟩ (by dsimp only; rw [List.map_append]) (SubS.of rfl ?_ rfl rfl)
          simp
        · rw [if_neg hlt] at hav
          subst hav
          unfold gotZ
          ((iterate 5 (((with_reducible refine dl_step TT_ok PTv_ok (id := 0) (σ' := ?_) ?_ ?_); rotate_left; (focus (simp [*]; rfl))))))
          refine dl_nil ?_
          refine adStr (h := ?_)
          refine adReg PTv_ok (h := ?_)
          refine adStr (h := ?_)
          refine adReg PTv_ok (h := ?_)
          refine adStr (h := ?_)
          refine km_lp ⟨(st O2 z (u8O [pk]), z :: bd2 :: I2, z + 1, L1 ++ L2), HF6⟩ (by dsimp only; rw [List.map_append]) (SubS.of rfl ?_ rfl rfl)
          simp
      case iround =>
        intro ⟨L, hL⟩ m1 e m2 hsp B4 hBD4 hro4 hI4 hF4 hE4
        dsimp only at hsp hI4
        obtain ⟨M1, Me, rfl, rfl, hMe⟩ := List.map_eq_append_iff.1 hsp
        obtain ⟨⟨qk, qv⟩, M2, rfl, rfl, rfl⟩ := List.map_eq_cons_iff.1 hMe
        clear hsp hMe
        have hL2 : (M1 ++ M2).length ≤ 60 := by simp at hL ⊢; omega
        have hA60 : cntA pv (M1 ++ M2) ≤ 60 := Nat.le_trans (List.length_filter_le _ _) hL2
        obtain ⟨A, hA⟩ : ∃ A, cntA pv (M1 ++ M2) = A := ⟨_, rfl⟩
        by_cases hgt : pv < qv
        · have hc1 : cntA pv (M1 ++ (qk, qv) :: M2) = A + 1 := by
            rw [← hA]; unfold cntA
            rw [List.filter_append, List.filter_append, List.filter_cons, if_pos (by simpa using hgt)]
            simp only [List.length_append, List.length_cons]; omega
          have hwA : IntKind.i64.wrap ((T : Int) - ((A + 1 : Nat) : Int) + 1) = (T : Int) - (A : Int) := by
            rw [show (T : Int) - ((A + 1 : Nat) : Int) + 1 = (T : Int) - (A : Int) by omega]
            rw [hA] at hA60
            exact i64w (by omega) (by omega)
          unfold nxS
          dsimp only
          rw [hc1]
          generalize ((T : Int) - ((A + 1 : Nat) : Int)) = W at hwA ⊢
          refine adStr (h := ?_)
          refine d_regionL ?_
          refine dl_opI (s := (.tup [.v (.int .u8 qk), .v (.int .i64 qv)], [])) rfl rfl (ok_entry hE4 rfl rfl) ?_
          (refine dl_eq (τ := ?_) ?_ ?_; rotate_left; (focus ((try simp only [AS.frz, List.map_cons, List.map_nil]); (try simp [frzV, frzO, frzC, List.filter]); rfl)))
          ((iterate 2 (((with_reducible refine dl_step TT_ok PTv_ok (id := 0) (σ' := ?_) ?_ ?_); rotate_left; (focus (simp [*]; rfl))))))
          refine dl_nil ?_
          refine adStr (h := ?_)
          refine adReg PTv_ok (h := ?_)
          refine adStr (h := ?_)
          refine adReg PTv_ok (h := ?_)
          refine adStr (h := ?_)
          refine km_lp ⟨M1 ++ M2, hL2⟩ (by rw [List.map_append]) (SubS.of rfl ?_ rfl rfl)
          dsimp only
          rw [hA]
          simp
        · have hc1 : cntA pv (M1 ++ (qk, qv) :: M2) = A := by
            rw [← hA]; unfold cntA
            rw [List.filter_append, List.filter_append, List.filter_cons, if_neg (by simpa using hgt)]
          unfold nxS
          dsimp only
          rw [hc1]
          generalize hW : ((T : Int) - (A : Int)) = W
          refine adStr (h := ?_)
          refine d_regionL ?_
          refine dl_opI (s := (.tup [.v (.int .u8 qk), .v (.int .i64 qv)], [])) rfl rfl (ok_entry hE4 rfl rfl) ?_
          (refine dl_eq (τ := ?_) ?_ ?_; rotate_left; (focus ((try simp only [AS.frz, List.map_cons, List.map_nil]); (try simp [frzV, frzO, frzC, List.filter]); rfl)))
          ((iterate 2 (((with_reducible refine dl_step TT_ok PTv_ok (id := 0) (σ' := ?_) ?_ ?_); rotate_left; (focus (simp [*]; rfl))))))
          refine dl_nil ?_
          refine adStr (h := ?_)
          refine adReg PTv_ok (h := ?_)
          refine adStr (h := ?_)
          refine km_lp ⟨M1 ++ M2, hL2⟩ (by rw [List.map_append]) (SubS.of rfl ?_ rfl rfl)
          dsimp only
          rw [hA, hW]
          simp
theorem canonAgain_p (x : Int) (keys : List Int) (hx0 : 0 ≤ x) (hx1 : x ≤ 65535) (hB : okB keys = true) : FnPure Tryd.prog 9 [aB keys, .v (.int .u16 x)] (.v (.bool true)) := by
  by_cases hl : keys.length ≤ 60
  · exact again_ok x keys hx0 hx1 hB hl
  · have hli : 60 < (keys.length : Int) := by omega
    unfold aB
    refine fn_spD TT_ok Tryd.func9 (c := _) rfl (by simp [Tryd.ntmps9]) (fun B hI0 hro hBD => ?_)
    rw [Tryd.ntmps9]
    simp only [enumA]
    refine adStr (h := ?_)
    refine adReg PTv_ok (h := ?_)
    refine adStr (h := ?_)
    refine adReg PTv_ok (h := ?_)
    refine adStr (h := ?_)
    refine adReg PTv_ok (h := ?_)
    refine adStr (h := ?_)
    ((refine post_ret (av := ?_) (by first | exact .inl rfl | exact .inr rfl) (show (Tryd.f9).results.toList = _ from by rw [Tryd.results9]) ?_ ?_); rotate_left; (focus (simp [retA, retL, ret1, lk, st, ldA, AV.cell]; rfl)); (try simp [*]))
namespace canonAgain
set_option maxRecDepth 100000
theorem contract (H : Type) (enc : TypeId × Value → H) (W : World) (base : Nat) (args : Array Value) (ds gs : List (DataW H)) (before : List MemPlace)
    (hval0 : ∀ (j : Nat) t v, (Go.Proofs.Tryd.f9).params[j]? = some t → args[j]? = some v → Value.okWide Tryd.prog W .any base t v)
    (hW : DataW.Whole enc Tryd.prog (Go.Proofs.Tryd.f9).params.toList Rows.canonAgainSpec.vars false W args.toList ds gs before) (hL : laidMetH Tryd.prog Rows.canonAgainRow.laid W) :
    Calls Tryd.prog 9 args W fun e W' => ∃ v, e = .returned v ∧ Rows.canonAgainSpec.post enc Tryd.prog Go.Proofs.Tryd.f9 false true false false W args v W' := by
  have hval : ∀ (j : Nat) t v, (Go.Proofs.Tryd.f9).params[j]? = some t → args[j]? = some v → Value.okWide Tryd.prog W .any base t v := hval0
  have hW2 := hW
  obtain ⟨p, q, hA0, hV, _, _, _⟩ := hW
  have hA : DataW.TrodAll enc Tryd.prog W 0 (fun _ => true) true (Go.Proofs.Tryd.f9).params.toList args.toList ds p := hA0
  rw [Tryd.params9] at hA hval
  clear hA0 hval0
  obtain ⟨rfl, _⟩ := trodVars_none hV
  obtain ⟨v0, vs0, d0, ds0, p0, q0, hargs, rfl, _, h0, r0⟩ := trodAll_cons hA
  obtain ⟨v1, vs1, d1, ds1, p1, q1, rfl, rfl, _, h1, r1⟩ := trodAll_cons r0
  obtain ⟨rfl, rfl, _⟩ := trodAll_nil r1
  obtain rfl : args = #[v0, v1] := by cases args; simp_all
  obtain ⟨keys, ra0, oB0, oL0⟩ := arg_bytes (hval 0 _ v0 rfl rfl) h0
  obtain ⟨x, ra1, l1, u1⟩ := arg_u16 (hval 1 _ v1 rfl rfl) h1
  refine law_of_pure (glob_of_laid hL) (avs := [aB keys, .v (.int .u16 x)]) (by kernel_rfl) hW2 rfl (rec_ok (by kernel_rfl)) (tb := 4) rfl Tryd.underlying4 rfl rfl rfl rfl (fun i hi => ?_) (canonAgain_p x keys l1 u1 oB0)
  match i, hi with
  | 0, _ => exact ra0
  | 1, _ => exact ra1
theorem laid_met (os : Os) : laidMet Tryd.prog Rows.canonAgainRow.laid ((laidWorld os).forCall (fun _ _ => 0) ⟨#[], #[.slice none 0 0, .int .u16 0], []⟩).memory :=
  laidMet_of_run' 8 (by kernel_rfl) (by kernel_rfl)
theorem lifted (os : Os) (started : os.Started) (H : Type) (enc : TypeId × Value → H) (F : Stop.Interp) :
    ReturnsInHanded {} Tryd.checked os 9 .any ((OpenSpec.ofChange Rows.canonAgainSpec).preRow enc Tryd.prog Go.Proofs.Tryd.f9 Rows.canonAgainRow.domain false Rows.canonAgainRow.laid) (((OpenSpec.ofChange Rows.canonAgainSpec).at F).post enc Tryd.prog Go.Proofs.Tryd.f9 false true false false) := by
  refine returnsInHanded_of_row (C := Tryd.checked) (s := OpenSpec.ofChange Rows.canonAgainSpec) (by kernel_rfl) started (by kernel_rfl) Tryd.func9
    (witness_row_at (enc := enc) (C := Tryd.checked) false (laidWorld os) #[.slice none 0 0, .int .u16 0] rfl (by kernel_rfl) (by kernel_rfl) (by kernel_rfl)
      (OpenSpec.preRow_of_cond 8 (show DataW.whole enc Tryd.prog ((laidWorld os).forCall (fun _ _ => 0) ⟨#[], #[.slice none 0 0, .int .u16 0], []⟩).memory (Go.Proofs.Tryd.f9).params.toList Rows.canonAgainSpec.vars false (#[.slice none 0 0, .int .u16 0] : Array Value).toList 8 = some ([.nil, .lit (.int .u16 0)], [], []) by kernel_rfl) (by kernel_rfl) (fun k hk => by cases hk) (by kernel_rfl) (laid_met os))) ?_
  intro W base args ds gs before hval hW _ _ _ hL _ _
  exact contract H enc W base args ds gs before hval hW hL
theorem said : Rows.CanonAgainSaid :=
  OpenClaim.holds_of_cond 9 Go.Proofs.Tryd.f9 rfl rfl rfl rfl rfl rfl rfl ⟨rfl, rfl, rfl, rfl, rfl⟩ rfl rfl rfl rfl rfl (by kernel_rfl) Tryd.func9 (by kernel_rfl)
    (of_decide_eq_true (by kernel_rfl)) (by unfold Func.isWrapper; first | (rw [if_pos (by decide +kernel)]; kernel_rfl) | (rw [if_neg (by decide +kernel)]; exact ⟨rfl, rfl⟩))
    (fun os started H enc _ F => by rw [OpenClaim.pre_eq_preRow]; exact lifted os started H enc F)
theorem plain (f : FuncId) (fn : Func) (hf : Tryd.pinned.checked.prog.funcNamed "census/censuslaw17.CanonAgain" = some f) (hfn : Tryd.pinned.checked.prog.funcs[f]? = some fn) :
    false = Tryd.pinned.checked.prog.looks [] ∧ ∀ (j : Nat) t, fn.params[j]? = some t → Tryd.pinned.checked.prog.wantsStandIn t = false := by
  obtain rfl : f = 9 := Option.some.inj ((show Tryd.prog.funcNamed "census/censuslaw17.CanonAgain" = some 9 by kernel_rfl).symm.trans hf) |>.symm
  obtain rfl : fn = Go.Proofs.Tryd.f9 := (Option.some.inj (Tryd.func9.symm.trans hfn)).symm
  refine ⟨by kernel_rfl, fun j t ht => ?_⟩
  rw [Tryd.params9] at ht
  have hall : (Tryd.checked.prog.funcs[9]?).all (fun g => g.params.toList.all fun t => !(Tryd.checked.prog.wantsStandIn t)) = true := by kernel_rfl
  rw [show Tryd.checked.prog.funcs[9]? = some Go.Proofs.Tryd.f9 from Tryd.func9] at hall
  have h2 : ∀ t ∈ (Go.Proofs.Tryd.f9).params.toList, (!(Tryd.checked.prog.wantsStandIn t)) = true := List.all_eq_true.1 hall
  have hm : t ∈ (Go.Proofs.Tryd.f9).params.toList := by rw [Tryd.params9]; exact Array.mem_toList_iff.2 (Array.mem_of_getElem? ht)
  have h3 : Tryd.checked.prog.wantsStandIn t = false := by simpa using h2 t hm
  exact h3
theorem proved : Rows.CanonAgainCardSaid :=
  Claim7.holds_tied_plain_at .later [] _ _ _ _ said (fun _ h => by cases h) (by kernel_rfl) (fun _ h => by cases h) canonAgain_row_tie rfl ⟨rfl, rfl⟩ (by kernel_rfl) rfl plain (by kernel_rfl)
end canonAgain
end Go.Proofs.YtafikekndefjcaaDoor
