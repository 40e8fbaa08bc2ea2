/- CanonCaches: the cache answers as the reference. -/
import Derived.Test.YtafikekndefjcaaDoorSd17
import Derived.Test.YtafikekndefjcaaDoorWa
import Derived.Test.YtafikekndefjcaaDoorLd
namespace Go.Proofs.YtafikekndefjcaaDoor
set_option linter.unusedVariables false
set_option linter.unusedSimpArgs false
set_option linter.unusedSectionVars false
open Go.RowKit Go.WideShapes Go.ChangeShapes Go.ChangeAt
attribute [local simp] List.getD_cons_zero List.getD_cons_succ List.getD_nil undef gvars runL runE effA stepA dstOk wantA core lk st dl AS.ev AS.evs AS.put AS.upd updO updI nxt cPick cAlloc cBox cBuild cBuildS cLoad cStore cNil plainOf cBin cNilS isNilS nilA cUn cConvX cConvB cConv bytesOf rowB cMake cSlice slA idxA cFA cF cIA cIX cIS cI cExt cLen cApp cMM cFun cCall lenA lenM isNilM nilM cNilM cMakeM hintB cMapK cLook foundR lookR cUpd putM cDel delM findA isKeyB Instr.sameNow AS.entry AS.bound AS.callee sc1 sc2 ixOk ldA AV.flat AV.cell AV.cells Value.oneCell' fillA spl chunk zeros AS.parts AS.rows AS.shut AS.shut1 AS.shut2 AS.shutL AS.shutM AV.ids idsL idsLL eqAll bndA AV.scalar AV.scalar1 AV.isV Ef.app Ef.pk ptOf pntO wrO wr
attribute [-simp] List.getD_eq_getElem?_getD
set_option maxRecDepth 100000
attribute [local simp] lk_st lk_dl
theorem rowO_get {l : List OpC} {k : Nat} (h : k < l.length) : (l.map rowO).getD k [] = rowO l[k] := by
  simp [List.getD, h]
set_option maxHeartbeats 8000000 in
theorem caches_ok (most : Int) (l : List OpC) (hm0 : 0 ≤ most) (hm1 : most ≤ 1073741824) (hO : okOps l = true) (hl : l.length ≤ 200) : FnPure Tryd.prog 7 [.v (.int .i64 most), aOps l] (.v (.bool true)) := by
  have hli : ¬ (200 < (l.length : Int)) := by omega
  unfold aOps
  refine fn_sp TT_ok Tryd.func7 (c := _) rfl (by simp [Tryd.ntmps7]) (fun B hI0 hro => ?_)
  rw [Tryd.ntmps7]
  simp only [enumA]
  refine amStr (h := ?_)
  refine amReg PTv_ok (h := ?_)
  refine amStr (h := ?_)
  refine s_regionL ?_
  ((iterate 1 (((with_reducible refine spl_step TT_ok PTv_ok (id := 0) (σ' := ?_) ?_ ?_); rotate_left; (focus (simp [*]; rfl))))))
  refine spl_procB TT_ok rfl rfl rfl (by kernel_rfl) Tryd.func25 (avs := [.v (.int .i64 most)]) (cs := []) rfl rfl (by simp [Tryd.ntmps25]) (new_proc (c := 3) (m := 1) (s := 2) hm0 hm1 (by simp) (by simp) (by simp) (by omega) (by omega) (by omega)) fun av O1 I1 hK => ?_
  obtain ⟨rfl, rfl, k1, k2⟩ := hK
  ((iterate 5 (((with_reducible refine spl_step TT_ok PTv_ok (id := 0) (σ' := ?_) ?_ ?_); rotate_left; (focus (simp [*]; rfl))))))
  refine spl_nil ?_
  refine amStr (h := ?_)
  refine s_regionL ?_
  ((iterate 1 (((with_reducible refine spl_step TT_ok PTv_ok (id := 0) (σ' := ?_) ?_ ?_); rotate_left; (focus (simp [*]; rfl))))))
  refine spl_procB TT_ok rfl rfl rfl (by kernel_rfl) Tryd.func26 (avs := [.v (.int .i64 most)]) (cs := []) rfl rfl (by simp [Tryd.ntmps26]) (rnew_yes (x := 4) (by simp) hm0 hm1) fun av O2 I2 hK => ?_
  obtain ⟨rfl, rfl, k3⟩ := hK
  ((iterate 3 (((with_reducible refine spl_step TT_ok PTv_ok (id := 0) (σ' := ?_) ?_ ?_); rotate_left; (focus (simp [*]; rfl))))))
  (((with_reducible refine spl_step TT_ok PTv_ok (id := 5) (σ' := ?_) ?_ ?_); rotate_left; (focus (simp [*]; rfl))))
  ((iterate 2 (((with_reducible refine spl_step TT_ok PTv_ok (id := 0) (σ' := ?_) ?_ ?_); rotate_left; (focus (simp [*]; rfl))))))
  refine spl_nil ?_
  have hO6 : OutC 3 1 (fun _ => 2) 0 4 := ⟨by decide, by decide, fun _ _ => by show (4 : Nat) ≠ 2; decide⟩
  have hO5 : OutC 3 1 (fun _ => 2) 0 5 := ⟨by decide, by decide, fun _ _ => by show (5 : Nat) ≠ 2; decide⟩
  have hKp : CcI most [] [] (st O2 5 (rcO (.v (.slice none 0 0)) most)) [5, 4, 3, 2, 1] (fun _ => 2) (.v (.slice none 0 0)) 6 :=
    ⟨k1.mono (fun q hq => by
      have h1 : q ≠ 5 := by simp at hq; omega
      have h2 : q ≠ 4 := by simp at hq; omega
      rw [lk_st, if_neg (Ne.symm h1), k3 q h2]) (fun q hq => by simp at hq ⊢; omega), ⟨by rw [lk_st, if_pos rfl], .inl ⟨rfl, rfl⟩, by simp, fun e he => (by cases he)⟩, hO5, fun r off n h => (by cases h), fun q hq => by simp at hq; omega⟩
  have HKp := Lib.hid hKp
  clear hKp k1 k2 k3 hO6 hO5
  refine amStr (h := ?_)
  refine amReg PTv_ok (h := ?_)
  refine amStr (h := ?_)
  refine amReg PTv_ok (h := ?_)
  refine amStr (h := ?_)
  refine amReg PTv_ok (h := ?_)
  refine amStr (h := ?_)
  refine s_loopS (J := fun y : {y : List (Nat × AObj) × List Nat × (Nat → Nat) × AV × Nat × Nat // Hid (CcI most (esC most l y.2.2.2.2.2) (esC most l y.2.2.2.2.2) y.1 y.2.1 y.2.2.1 y.2.2.2.1 y.2.2.2.2.1) ∧ y.2.2.2.2.2 ≤ l.length} => ⟨127, [(1, .sl 3 (l.map rowO)), (4, .v (.bool false)), (5, .ptr 3 0 0), (7, .ptr 5 0 0), (47, .sl 3 (l.map rowO)), (48, .v (.int .i64 (l.length : Int))), (49, .v (.int .i64 (y.1.2.2.2.2.2 : Int)))], y.1.1, y.1.2.1⟩) (μ := fun y => l.length - y.1.2.2.2.2.2) ⟨(_, _, _, _, 6, 0), HKp, Nat.zero_le _⟩ (SubS.ofL rfl (by simp) (fun q => by by_cases e : 5 = q <;> simp [rcO, e]) rfl) (fun ⟨⟨O, I, nm, L, bd, k⟩, HK, hk⟩ => ?_)
  clear HKp
  dsimp only at HK hk
  dsimp only
  refine amStr (h := ?_)
  refine amReg PTv_ok (h := ?_)
  refine amStr (h := ?_)
  (focus ((with_reducible refine sp_cond (b := ?_) ?_ (fun hc => ?_) (fun hc => ?_)); rotate_left; (focus (first | rfl | (simp [lk, AS.ev]; rfl))); all_goals (try simp at hc)))
  · have hkk : k < l.length := by omega
    clear hc
    have hwk : IntKind.i64.wrap ((k : Int) + 1) = (k : Int) + 1 := i64s k (by omega)
    have hg := rowO_get hkk
    have hes := esC_succ (most := most) hkk
    have hox : okO l[k] = true := by
      unfold okOps at hO
      rw [List.all_eq_true] at hO
      exact hO _ (List.getElem_mem hkk)
    obtain ⟨⟨w, key, v⟩, hx⟩ : ∃ x, l[k] = x := ⟨_, rfl⟩
    rw [hx] at hg hes hox
    unfold okO at hox
    simp only [Bool.and_eq_true, decide_eq_true_eq] at hox
    obtain ⟨⟨⟨hw0, hw1⟩, hkb⟩, hv⟩ := hox
    have hg2 : (l.map rowO).getD k [] = [.v (.int .u8 w), .sl 1 (key.map fun x => [.v (.int .u8 x)]), .v (.int .i64 v)] := hg
    clear hg
    have hbI : bd ∉ I := fun h => by have := HK.out.hi _ h; omega
    have HE := Lib.hid hes
    clear hes hx
    refine amStr (h := ?_)
    refine s_regionL ?_
    ((iterate 2 (((with_reducible refine spl_step TT_ok PTv_ok (id := 0) (σ' := ?_) ?_ ?_); rotate_left; (focus (simp [*]; rfl))))))
    (((with_reducible refine spl_step TT_ok PTv_ok (id := bd) (σ' := ?_) ?_ ?_); rotate_left; (focus (simp [*]; rfl))))
    ((iterate 1 (((with_reducible refine spl_step TT_ok PTv_ok (id := 0) (σ' := ?_) ?_ ?_); rotate_left; (focus (simp [*]; rfl))))))
    refine spl_nil ?_
    refine amStr (h := ?_)
    refine amReg PTv_ok (h := ?_)
    by_cases hk3 : 300 < (key.length : Int)
    · refine amStr (h := ?_)
      refine amReg PTv_ok (h := ?_)
      refine amStr (h := ?_)
      refine ks_ret ?_
      refine amStr (h := ?_)
      ((refine post_ret (av := ?_) (by first | exact .inl rfl | exact .inr rfl) (show (Tryd.f7).results.toList = _ from by rw [Tryd.results7]) ?_ ?_); rotate_left; (focus (simp [retA, retL, ret1, lk, st, ldA, AV.cell]; rfl)); (try simp [*]))
    · refine amStr (h := ?_)
      have HK1 := Lib.hid (HK.out.more (O1 := st O bd ⟨57, 3, [[.v (.int .u8 w), .sl 1 (key.map fun x => [.v (.int .u8 x)]), .v (.int .i64 v)]]⟩) (I1 := bd :: I) (b2 := bd + 1) (fun q hq => by rw [lk_st, if_neg (by omega)]) (fun q hq => List.mem_cons_of_mem _ hq) (fun q hq => by
        rcases List.mem_cons.1 hq with rfl | hq
        · omega
        · have := HK.out.hi _ hq; omega))
      obtain ⟨z, hz⟩ : ∃ z, bd + 1 = z := ⟨_, rfl⟩
      have hzb : ¬ z = bd := by omega
      have hzb2 : ¬ bd = z := by omega
      have hzI : z ∉ I := fun h => by have := HK.out.hi _ h; omega
      refine s_regionL ?_
      (((with_reducible refine spl_step TT_ok PTv_ok (id := z) (σ' := ?_) ?_ ?_); rotate_left; (focus (simp [*]; rfl))))
      ((iterate 2 (((with_reducible refine spl_step TT_ok PTv_ok (id := 0) (σ' := ?_) ?_ ?_); rotate_left; (focus (simp [*]; rfl))))))
      obtain ⟨y, hy⟩ : ∃ y, bd + 2 = y := ⟨_, rfl⟩
      have hyb : ¬ y = bd := by omega
      have hyz : ¬ y = z := by omega
      have hyI : y ∉ I := fun h => by have := HK.out.hi _ h; omega
      have hcap : key.length ≤ 140737488355328 := by omega
      (((with_reducible refine spl_step TT_ok PTv_ok (id := y) (σ' := ?_) ?_ ?_); rotate_left; (focus (simp [*]; rfl))))
      ((iterate 1 (((with_reducible refine spl_step TT_ok PTv_ok (id := 0) (σ' := ?_) ?_ ?_); rotate_left; (focus (simp [*]; rfl))))))
      refine spl_nil ?_
      have HK3 : Hid (CcI most (esC most l k) (esC most l k) (st (dl (st O bd ⟨57, 3, [[.v (.int .u8 w), .sl 1 (key.map fun x => [.v (.int .u8 x)]), .v (.int .i64 v)]]⟩) z) y (u8O key)) (y :: z :: bd :: I) nm L (bd + 3)) := Lib.hid (HK1.out.more (fun q hq => by rw [lk_st, if_neg (by omega), lk_dl, if_neg (by omega)]) (fun q hq => List.mem_cons_of_mem _ (List.mem_cons_of_mem _ hq)) (fun q hq => by
        rcases List.mem_cons.1 hq with rfl | hq
        · omega
        · rcases List.mem_cons.1 hq with rfl | hq
          · omega
          · have := HK1.out.hi _ hq; omega))
      have hy1 : lk (st (dl (st O bd ⟨57, 3, [[.v (.int .u8 w), .sl 1 (key.map fun x => [.v (.int .u8 x)]), .v (.int .i64 v)]]⟩) z) y (u8O key)) y = some (u8O key) := by rw [lk_st, if_pos rfl]
      have hb1 : lk (st (dl (st O bd ⟨57, 3, [[.v (.int .u8 w), .sl 1 (key.map fun x => [.v (.int .u8 x)]), .v (.int .i64 v)]]⟩) z) y (u8O key)) bd = some ⟨57, 3, [[.v (.int .u8 w), .sl 1 (key.map fun x => [.v (.int .u8 x)]), .v (.int .i64 v)]]⟩ := by rw [lk_st, if_neg hyb, lk_dl, if_neg hzb, lk_st, if_pos rfl]
      refine k_seq ?_
      refine s_subS (τ := ⟨127, [(1, .sl 3 (l.map rowO)), (4, .v (.bool false)), (5, .ptr 3 0 0), (7, .ptr 5 0 0), (47, .sl 3 (l.map rowO)), (48, .v (.int .i64 (l.length : Int))), (49, .v (.int .i64 (k : Int))), (10, .ptr bd 0 0), (11, .ref y 0 key.length)], st (dl (st O bd ⟨57, 3, [[.v (.int .u8 w), .sl 1 (key.map fun x => [.v (.int .u8 x)]), .v (.int .i64 v)]]⟩) z) y (u8O key), y :: z :: bd :: I⟩) (SubS.ofL rfl (by simp) (fun q => by
        unfold u8O
        by_cases e1 : y = q
        · subst e1; simp [hyb, hyz]
        · by_cases e2 : z = q
          · subst e2; simp [e1]
          · by_cases e3 : bd = q
            · subst e3; simp [e1, e2]
            · simp [e1, e2, e3]) (by simp)) ?_
      generalize (st (dl (st O bd ⟨57, 3, [[.v (.int .u8 w), .sl 1 (key.map fun x => [.v (.int .u8 x)]), .v (.int .i64 v)]]⟩) z) y (u8O key)) = O3 at HK3 hy1 hb1 ⊢
      have HM : Hid (CcM most y bd key ⟨57, 3, [[.v (.int .u8 w), .sl 1 (key.map fun x => [.v (.int .u8 x)]), .v (.int .i64 v)]]⟩ (esC most l k) (esC most l k) O3 (y :: z :: bd :: I) nm L (bd + 3)) := by
        obtain ⟨a1, a2, a3⟩ := HK.out.out hyI
        obtain ⟨c1, c2, c3⟩ := HK.out.out hbI
        exact Lib.hid ⟨HK3.out, hy1, hb1, a1, c1, a2, c2, a3, by simp, by simp⟩
      clear HK1 hg2 HK3 hy1 hb1
      generalize (y :: z :: bd :: I) = I3 at HM ⊢
      generalize hb3 : bd + 3 = b3 at HM
      clear hzb hzb2 hzI hz hy hyz hyI hbI hb3
      refine s_cut (M := fun τ => ∃ O4 I4 nm4 L4 b4, SubS τ ⟨127, [(1, .sl 3 (l.map rowO)), (4, .v (.bool false)), (5, .ptr 3 0 0), (7, .ptr 5 0 0), (47, .sl 3 (l.map rowO)), (48, .v (.int .i64 (l.length : Int))), (49, .v (.int .i64 (k : Int)))], O4, I4⟩ ∧ CcI most (esC most l (k + 1)) (esC most l (k + 1)) O4 I4 nm4 L4 b4) ?_ fun τ hM => ?_
      · have hm3 : w.tmod 3 = w % 3 := Int.tmod_eq_emod_of_nonneg hw0
        have hw3 : IntKind.u8.wrap (w % 3) = w % 3 := by rw [IntKind.wrap_u8]; omega
        have hkey := HE.out
        unfold stC at hkey
        dsimp only at hkey
        by_cases hw2 : w % 3 = 2
        · rw [if_pos hw2] at hkey
          have hlb := HM.out.lb
          have HKY := Lib.hid hkey
          clear hkey
          refine amStr (h := ?_)
          refine amReg PTv_ok (h := ?_)
          refine amStr (h := ?_)
          exact ⟨rfl, O3, I3, nm, L, b3, SubS.of rfl (by simp) rfl rfl, by rw [HKY.out]; exact HM.out.cc⟩
        · rw [if_neg hw2] at hkey
          have hlb := HM.out.lb
          have HKY := Lib.hid hkey
          clear hkey
          refine amStr (h := ?_)
          refine amReg PTv_ok (h := ?_)
          refine k_seq ?_
          refine s_cond_t (by simp [*]) ?_
          have hroom := HK.out.ca.room
          have hk1 : key.length ≤ 1073741824 := by omega
          obtain ⟨E1, hE1⟩ : ∃ E, esC most l k = E := ⟨_, rfl⟩
          rw [hE1] at hroom HM HKY
          obtain ⟨E2, hE2⟩ : ∃ E, putZ most.toNat E1 (key, v) = E := ⟨_, rfl⟩
          rw [hE2] at HKY
          unfold putZ at hE2
          clear hlb
          refine s_cut (M := fun τ => ∃ O' I' nm' L' b', SubS τ ⟨127, [(1, .sl 3 (l.map rowO)), (4, .v (.bool false)), (5, .ptr 3 0 0), (7, .ptr 5 0 0), (47, .sl 3 (l.map rowO)), (48, .v (.int .i64 (l.length : Int))), (49, .v (.int .i64 (k : Int))), (11, .ref y 0 key.length)], O', I'⟩ ∧ CcM most y bd key ⟨57, 3, [[.v (.int .u8 w), .sl 1 (key.map fun x => [.v (.int .u8 x)]), .v (.int .i64 v)]]⟩ E2 E2 O' I' nm' L' b') ?_ fun τ hM2 => ?_
          refine s_seq ?_
          by_cases hf : (key.length : Int) + 16 ≤ most
          · rw [if_neg (by show ¬ key.length + 16 > most.toNat; omega)] at hE2
            have HE2 := Lib.hid hE2.symm
            clear hE2
            refine s_drawV prog_mixed (N := 127) (bs := [(1, .sl 3 (l.map rowO)), (4, .v (.bool false)), (5, .ptr 3 0 0), (7, .ptr 5 0 0), (47, .sl 3 (l.map rowO)), (48, .v (.int .i64 (l.length : Int))), (49, .v (.int .i64 (k : Int))), (10, .ptr bd 0 0), (11, .ref y 0 key.length)]) (vs := [(66, .ptr 3 0 0), (67, .ref y 0 key.length), (68, .ptr bd 0 2), (69, .v (.int .i64 v)), (70, .v (.int .i64 0)), (71, .ptr bd 0 1), (72, .sl 1 (key.map fun x => [.v (.int .u8 x)])), (73, .v (.string (strOfNums key))), (74, .ptr bd 0 2), (75, .v (.int .i64 v)), (76, .v (.int .i64 0)), (77, .v (.bool false))]) (Mem := fun d O' I' => ∃ nm' L' b', CcM most y bd key ⟨57, 3, [[.v (.int .u8 w), .sl 1 (key.map fun x => [.v (.int .u8 x)]), .v (.int .i64 v)]]⟩ (if d 4 = true then E2 else E1) (if d 10 = true then E2 else E1) O' I' nm' L' b') rfl (by simp) ⟨nm, L, b3, HM.out⟩ rfl (show ([1, 4, 5, 7, 47, 48, 49, 10, 11, 66, 67, 68, 69, 70, 71, 72, 73, 74, 75, 76, 77] : List Nat).Nodup from by decide) (by kernel_rfl) ?_ ?_
            · intro d S' O' I' i o p ho hp hd hdep hb hv' hMem
              obtain ⟨nm', L', b', hMM⟩ := hMem
              have hlb := hMM.lb
              have c5 := hb _ (.tail _ (.tail _ (.head _)))
              have c7 := hb _ (.tail _ (.tail _ (.tail _ (.head _))))
              have c10 := hb _ (.tail _ (.tail _ (.tail _ (.tail _ (.tail _ (.tail _ (.tail _ (.head _))))))))
              have c11 := hb _ (.tail _ (.tail _ (.tail _ (.tail _ (.tail _ (.tail _ (.tail _ (.tail _ (.head _)))))))))
              have h66 := hv' 0 _ rfl
              have h67 := hv' 1 _ rfl
              have h68 := hv' 2 _ rfl
              have h69 := hv' 3 _ rfl
              have h70 := hv' 4 _ rfl
              have h71 := hv' 5 _ rfl
              have h72 := hv' 6 _ rfl
              have h73 := hv' 7 _ rfl
              have h74 := hv' 8 _ rfl
              have h75 := hv' 9 _ rfl
              have h76 := hv' 10 _ rfl
              dsimp only at c5 c7 c10 c11 h66 h67 h68 h69 h70 h71 h72 h73 h74 h75 h76
              clear hb hv'
              rcases i with _ | _ | _ | _ | _ | _ | _ | _ | _ | _ | _ | _ | i
              · cases ho
                cases hp
                simp [Region.binds] at hdep
                ((iterate 1 (((with_reducible refine spl_step TT_ok PTv_ok (id := 0) (σ' := ?_) ?_ ?_); rotate_left; (focus (simp [*]; rfl))))))
                exact spl_nil ⟨rfl, rfl, rfl, fun d' hd' => ⟨nm', L', b', by have e4 := hd' 4; have e10 := hd' 10; simp at e4 e10; rw [e4, e10]; exact hMM⟩⟩
              · cases ho
                cases hp
                simp [Region.binds] at hdep
                ((iterate 1 (((with_reducible refine spl_step TT_ok PTv_ok (id := 0) (σ' := ?_) ?_ ?_); rotate_left; (focus (simp [*]; rfl))))))
                exact spl_nil ⟨rfl, rfl, rfl, fun d' hd' => ⟨nm', L', b', by have e4 := hd' 4; have e10 := hd' 10; simp at e4 e10; rw [e4, e10]; exact hMM⟩⟩
              · cases ho
                cases hp
                simp [Region.binds] at hdep
                ((iterate 1 (((with_reducible refine spl_step TT_ok PTv_ok (id := 0) (σ' := ?_) ?_ ?_); rotate_left; (focus (simp [*]; rfl))))))
                exact spl_nil ⟨rfl, rfl, rfl, fun d' hd' => ⟨nm', L', b', by have e4 := hd' 4; have e10 := hd' 10; simp at e4 e10; rw [e4, e10]; exact hMM⟩⟩
              · cases ho
                cases hp
                simp [Region.binds] at hdep
                ((iterate 1 (((with_reducible refine spl_step TT_ok PTv_ok (id := 0) (σ' := ?_) ?_ ?_); rotate_left; (focus (simp [*]; rfl))))))
                exact spl_nil ⟨rfl, rfl, rfl, fun d' hd' => ⟨nm', L', b', by have e4 := hd' 4; have e10 := hd' 10; simp at e4 e10; rw [e4, e10]; exact hMM⟩⟩
              · cases ho
                cases hp
                simp [Region.binds] at hdep
                rw [hd, if_neg (by decide)] at hMM
                have g66 := h66 hdep.1
                have g67 := h67 hdep.2.1
                have g69 := h69 hdep.2.2
                refine spl_procB TT_ok (by rfl) (by rfl) rfl (by kernel_rfl) Tryd.func27 (avs := [.ptr 3 0 0, .ref y 0 key.length, .v (.int .i64 v)]) (cs := []) rfl (by simp [*]) (by simp [Tryd.ntmps27]) (put_yes (x := b') (ks := key) hMM.cc.ca hMM.ly hMM.oy hMM.yI hkb hf (fun h => by have := hMM.cc.hi _ h; omega)) fun av O5 I5 hK => ?_
                obtain ⟨rfl, rfl, nm5, p1, p2, p3⟩ := hK
                refine spl_nil ⟨rfl, rfl, rfl, fun d' hd' => ⟨nm5, L', b' + 1, ?_⟩⟩
                have e4 := hd' 4
                have e10 := hd' 10
                simp at e4 e10
                rw [e4, e10, if_pos rfl]
                have h9 := hMM.put (Nat.le_refl _) p1 p2 p3
                have hE : (dropZ (most.toNat - (key.length + 16)) (E1.filter fun x => decide (x.1 ≠ key)) ++ [(key, v)]) = E2 := HE2.out.symm
                rw [hE] at h9
                exact h9
              · cases ho
                cases hp
                simp [Region.binds] at hdep
                ((iterate 1 (((with_reducible refine spl_step TT_ok PTv_ok (id := 0) (σ' := ?_) ?_ ?_); rotate_left; (focus (simp [*]; rfl))))))
                exact spl_nil ⟨rfl, rfl, rfl, fun d' hd' => ⟨nm', L', b', by have e4 := hd' 4; have e10 := hd' 10; simp at e4 e10; rw [e4, e10]; exact hMM⟩⟩
              · cases ho
                cases hp
                simp [Region.binds] at hdep
                ((iterate 1 (((with_reducible refine spl_step TT_ok PTv_ok (id := 0) (σ' := ?_) ?_ ?_); rotate_left; (focus (simp [*]; rfl))))))
                exact spl_nil ⟨rfl, rfl, rfl, fun d' hd' => ⟨nm', L', b', by have e4 := hd' 4; have e10 := hd' 10; simp at e4 e10; rw [e4, e10]; exact hMM⟩⟩
              · cases ho
                cases hp
                simp [Region.binds] at hdep
                ((iterate 1 (((with_reducible refine spl_step TT_ok PTv_ok (id := 0) (σ' := ?_) ?_ ?_); rotate_left; (focus (simp [*]; rfl))))))
                exact spl_nil ⟨rfl, rfl, rfl, fun d' hd' => ⟨nm', L', b', by have e4 := hd' 4; have e10 := hd' 10; simp at e4 e10; rw [e4, e10]; exact hMM⟩⟩
              · cases ho
                cases hp
                simp [Region.binds] at hdep
                ((iterate 1 (((with_reducible refine spl_step TT_ok PTv_ok (id := 0) (σ' := ?_) ?_ ?_); rotate_left; (focus (simp [*]; rfl))))))
                exact spl_nil ⟨rfl, rfl, rfl, fun d' hd' => ⟨nm', L', b', by have e4 := hd' 4; have e10 := hd' 10; simp at e4 e10; rw [e4, e10]; exact hMM⟩⟩
              · cases ho
                cases hp
                simp [Region.binds] at hdep
                ((iterate 1 (((with_reducible refine spl_step TT_ok PTv_ok (id := 0) (σ' := ?_) ?_ ?_); rotate_left; (focus (simp [*]; rfl))))))
                exact spl_nil ⟨rfl, rfl, rfl, fun d' hd' => ⟨nm', L', b', by have e4 := hd' 4; have e10 := hd' 10; simp at e4 e10; rw [e4, e10]; exact hMM⟩⟩
              · cases ho
                cases hp
                simp [Region.binds] at hdep
                rw [hd] at hMM
                have g73 := h73 hdep.1
                have g75 := h75 hdep.2.1
                refine spl_procB TT_ok (by rfl) (by rfl) rfl (by kernel_rfl) Tryd.func28 (avs := [.ptr 5 0 0, .v (.string (strOfNums key)), .v (.int .i64 v)]) (cs := []) rfl (by simp [*]) (by simp [Tryd.ntmps28]) (rput_yes (ks := key) hMM.cc.rf hMM.cc.hi hkb hf hm1 hroom) fun av O5 I5 hK => ?_
                obtain ⟨rfl, z5, n5, b5, q1, q2, q3, q4, q5, q6⟩ := hK
                refine spl_nil ⟨rfl, rfl, rfl, fun d' hd' => ⟨nm', .ref z5 0 n5, b5, ?_⟩⟩
                have e4 := hd' 4
                have e10 := hd' 10
                simp at e4 e10
                rw [e4, e10, if_pos rfl, HE2.out]
                rw [HE2.out] at hMM
                exact hMM.rput q1 q2 q3 q4 q6
              · cases ho
                cases hp
                simp [Region.binds] at hdep
                ((iterate 1 (((with_reducible refine spl_step TT_ok PTv_ok (id := 0) (σ' := ?_) ?_ ?_); rotate_left; (focus (simp [*]; rfl))))))
                exact spl_nil ⟨rfl, rfl, rfl, fun d' hd' => ⟨nm', L', b', by have e4 := hd' 4; have e10 := hd' 10; simp at e4 e10; rw [e4, e10]; exact hMM⟩⟩
              · simp at ho
            · intro d S' O' I' hall hb hv' hMem
              obtain ⟨nm', L', b', hMM⟩ := hMem
              rw [hall 4 (by decide), hall 10 (by decide), if_pos rfl] at hMM
              have c1 := hb _ (.head _)
              have c4 := hb _ (.tail _ (.head _))
              have c5 := hb _ (.tail _ (.tail _ (.head _)))
              have c7 := hb _ (.tail _ (.tail _ (.tail _ (.head _))))
              have c47 := hb _ (.tail _ (.tail _ (.tail _ (.tail _ (.head _)))))
              have c48 := hb _ (.tail _ (.tail _ (.tail _ (.tail _ (.tail _ (.head _))))))
              have c49 := hb _ (.tail _ (.tail _ (.tail _ (.tail _ (.tail _ (.tail _ (.head _)))))))
              have c11 := hb _ (.tail _ (.tail _ (.tail _ (.tail _ (.tail _ (.tail _ (.tail _ (.tail _ (.head _)))))))))
              have c77 := hv' (77, .v (.bool false)) (by simp)
              dsimp only at c1 c4 c5 c7 c47 c48 c49 c11 c77
              refine k_seq ?_
              refine s_subS (τ := ⟨127, [(1, .sl 3 (l.map rowO)), (4, .v (.bool false)), (5, .ptr 3 0 0), (7, .ptr 5 0 0), (47, .sl 3 (l.map rowO)), (48, .v (.int .i64 (l.length : Int))), (49, .v (.int .i64 (k : Int))), (11, .ref y 0 key.length), (77, .v (.bool false))], _, _⟩) (SubS.of rfl (fun p hp => by
                simp only [List.mem_cons, List.not_mem_nil, or_false] at hp
                rcases hp with rfl | rfl | rfl | rfl | rfl | rfl | rfl | rfl | rfl <;> assumption) rfl rfl) ?_
              refine amStr (h := ?_)
              exact ⟨rfl, _, _, nm', L', b', SubS.of rfl (by simp) rfl rfl, hMM⟩
          · rw [if_pos (by show key.length + 16 > most.toNat; omega)] at hE2
            have HE2 := Lib.hid hE2.symm
            clear hE2
            refine s_drawV prog_mixed (N := 127) (bs := [(1, .sl 3 (l.map rowO)), (4, .v (.bool false)), (5, .ptr 3 0 0), (7, .ptr 5 0 0), (47, .sl 3 (l.map rowO)), (48, .v (.int .i64 (l.length : Int))), (49, .v (.int .i64 (k : Int))), (10, .ptr bd 0 0), (11, .ref y 0 key.length)]) (vs := [(66, .ptr 3 0 0), (67, .ref y 0 key.length), (68, .ptr bd 0 2), (69, .v (.int .i64 v)), (70, .v (.int .i64 2)), (71, .ptr bd 0 1), (72, .sl 1 (key.map fun x => [.v (.int .u8 x)])), (73, .v (.string (strOfNums key))), (74, .ptr bd 0 2), (75, .v (.int .i64 v)), (76, .v (.int .i64 2)), (77, .v (.bool false))]) (Mem := fun d O' I' => ∃ nm' L' b', CcM most y bd key ⟨57, 3, [[.v (.int .u8 w), .sl 1 (key.map fun x => [.v (.int .u8 x)]), .v (.int .i64 v)]]⟩ (if d 4 = true then E2 else E1) (if d 10 = true then E2 else E1) O' I' nm' L' b') rfl (by simp) ⟨nm, L, b3, HM.out⟩ rfl (show ([1, 4, 5, 7, 47, 48, 49, 10, 11, 66, 67, 68, 69, 70, 71, 72, 73, 74, 75, 76, 77] : List Nat).Nodup from by decide) (by kernel_rfl) ?_ ?_
            · intro d S' O' I' i o p ho hp hd hdep hb hv' hMem
              obtain ⟨nm', L', b', hMM⟩ := hMem
              have hlb := hMM.lb
              have c5 := hb _ (.tail _ (.tail _ (.head _)))
              have c7 := hb _ (.tail _ (.tail _ (.tail _ (.head _))))
              have c10 := hb _ (.tail _ (.tail _ (.tail _ (.tail _ (.tail _ (.tail _ (.tail _ (.head _))))))))
              have c11 := hb _ (.tail _ (.tail _ (.tail _ (.tail _ (.tail _ (.tail _ (.tail _ (.tail _ (.head _)))))))))
              have h66 := hv' 0 _ rfl
              have h67 := hv' 1 _ rfl
              have h68 := hv' 2 _ rfl
              have h69 := hv' 3 _ rfl
              have h70 := hv' 4 _ rfl
              have h71 := hv' 5 _ rfl
              have h72 := hv' 6 _ rfl
              have h73 := hv' 7 _ rfl
              have h74 := hv' 8 _ rfl
              have h75 := hv' 9 _ rfl
              have h76 := hv' 10 _ rfl
              dsimp only at c5 c7 c10 c11 h66 h67 h68 h69 h70 h71 h72 h73 h74 h75 h76
              clear hb hv'
              rcases i with _ | _ | _ | _ | _ | _ | _ | _ | _ | _ | _ | _ | i
              · cases ho
                cases hp
                simp [Region.binds] at hdep
                ((iterate 1 (((with_reducible refine spl_step TT_ok PTv_ok (id := 0) (σ' := ?_) ?_ ?_); rotate_left; (focus (simp [*]; rfl))))))
                exact spl_nil ⟨rfl, rfl, rfl, fun d' hd' => ⟨nm', L', b', by have e4 := hd' 4; have e10 := hd' 10; simp at e4 e10; rw [e4, e10]; exact hMM⟩⟩
              · cases ho
                cases hp
                simp [Region.binds] at hdep
                ((iterate 1 (((with_reducible refine spl_step TT_ok PTv_ok (id := 0) (σ' := ?_) ?_ ?_); rotate_left; (focus (simp [*]; rfl))))))
                exact spl_nil ⟨rfl, rfl, rfl, fun d' hd' => ⟨nm', L', b', by have e4 := hd' 4; have e10 := hd' 10; simp at e4 e10; rw [e4, e10]; exact hMM⟩⟩
              · cases ho
                cases hp
                simp [Region.binds] at hdep
                ((iterate 1 (((with_reducible refine spl_step TT_ok PTv_ok (id := 0) (σ' := ?_) ?_ ?_); rotate_left; (focus (simp [*]; rfl))))))
                exact spl_nil ⟨rfl, rfl, rfl, fun d' hd' => ⟨nm', L', b', by have e4 := hd' 4; have e10 := hd' 10; simp at e4 e10; rw [e4, e10]; exact hMM⟩⟩
              · cases ho
                cases hp
                simp [Region.binds] at hdep
                ((iterate 1 (((with_reducible refine spl_step TT_ok PTv_ok (id := 0) (σ' := ?_) ?_ ?_); rotate_left; (focus (simp [*]; rfl))))))
                exact spl_nil ⟨rfl, rfl, rfl, fun d' hd' => ⟨nm', L', b', by have e4 := hd' 4; have e10 := hd' 10; simp at e4 e10; rw [e4, e10]; exact hMM⟩⟩
              · cases ho
                cases hp
                simp [Region.binds] at hdep
                rw [hd, if_neg (by decide)] at hMM
                have g66 := h66 hdep.1
                have g67 := h67 hdep.2.1
                have g69 := h69 hdep.2.2
                refine spl_procB TT_ok (by rfl) (by rfl) rfl (by kernel_rfl) Tryd.func27 (avs := [.ptr 3 0 0, .ref y 0 key.length, .v (.int .i64 v)]) (cs := []) rfl (by simp [*]) (by simp [Tryd.ntmps27]) (put_no (ks := key) hMM.cc.ca hk1 (by omega)) fun av O5 I5 hK => ?_
                obtain ⟨rfl, rfl, rfl⟩ := hK
                refine spl_nil ⟨rfl, rfl, rfl, fun d' hd' => ⟨nm', L', b', ?_⟩⟩
                have e4 := hd' 4
                have e10 := hd' 10
                simp at e4 e10
                rw [e4, e10, if_pos rfl]
                have e := HE2.out
                clear HE2
                subst e
                exact hMM
              · cases ho
                cases hp
                simp [Region.binds] at hdep
                ((iterate 1 (((with_reducible refine spl_step TT_ok PTv_ok (id := 0) (σ' := ?_) ?_ ?_); rotate_left; (focus (simp [*]; rfl))))))
                exact spl_nil ⟨rfl, rfl, rfl, fun d' hd' => ⟨nm', L', b', by have e4 := hd' 4; have e10 := hd' 10; simp at e4 e10; rw [e4, e10]; exact hMM⟩⟩
              · cases ho
                cases hp
                simp [Region.binds] at hdep
                ((iterate 1 (((with_reducible refine spl_step TT_ok PTv_ok (id := 0) (σ' := ?_) ?_ ?_); rotate_left; (focus (simp [*]; rfl))))))
                exact spl_nil ⟨rfl, rfl, rfl, fun d' hd' => ⟨nm', L', b', by have e4 := hd' 4; have e10 := hd' 10; simp at e4 e10; rw [e4, e10]; exact hMM⟩⟩
              · cases ho
                cases hp
                simp [Region.binds] at hdep
                ((iterate 1 (((with_reducible refine spl_step TT_ok PTv_ok (id := 0) (σ' := ?_) ?_ ?_); rotate_left; (focus (simp [*]; rfl))))))
                exact spl_nil ⟨rfl, rfl, rfl, fun d' hd' => ⟨nm', L', b', by have e4 := hd' 4; have e10 := hd' 10; simp at e4 e10; rw [e4, e10]; exact hMM⟩⟩
              · cases ho
                cases hp
                simp [Region.binds] at hdep
                ((iterate 1 (((with_reducible refine spl_step TT_ok PTv_ok (id := 0) (σ' := ?_) ?_ ?_); rotate_left; (focus (simp [*]; rfl))))))
                exact spl_nil ⟨rfl, rfl, rfl, fun d' hd' => ⟨nm', L', b', by have e4 := hd' 4; have e10 := hd' 10; simp at e4 e10; rw [e4, e10]; exact hMM⟩⟩
              · cases ho
                cases hp
                simp [Region.binds] at hdep
                ((iterate 1 (((with_reducible refine spl_step TT_ok PTv_ok (id := 0) (σ' := ?_) ?_ ?_); rotate_left; (focus (simp [*]; rfl))))))
                exact spl_nil ⟨rfl, rfl, rfl, fun d' hd' => ⟨nm', L', b', by have e4 := hd' 4; have e10 := hd' 10; simp at e4 e10; rw [e4, e10]; exact hMM⟩⟩
              · cases ho
                cases hp
                simp [Region.binds] at hdep
                rw [hd] at hMM
                have g73 := h73 hdep.1
                have g75 := h75 hdep.2.1
                refine spl_procB TT_ok (by rfl) (by rfl) rfl (by kernel_rfl) Tryd.func28 (avs := [.ptr 5 0 0, .v (.string (strOfNums key)), .v (.int .i64 v)]) (cs := []) rfl (by simp [*]) (by simp [Tryd.ntmps28]) (rput_no (ks := key) hMM.cc.rf hk1 (by omega)) fun av O5 I5 hK => ?_
                obtain ⟨rfl, rfl, rfl⟩ := hK
                refine spl_nil ⟨rfl, rfl, rfl, fun d' hd' => ⟨nm', L', b', ?_⟩⟩
                have e4 := hd' 4
                have e10 := hd' 10
                simp at e4 e10
                rw [e4, e10, if_pos rfl, HE2.out]
                rw [HE2.out] at hMM
                exact hMM
              · cases ho
                cases hp
                simp [Region.binds] at hdep
                ((iterate 1 (((with_reducible refine spl_step TT_ok PTv_ok (id := 0) (σ' := ?_) ?_ ?_); rotate_left; (focus (simp [*]; rfl))))))
                exact spl_nil ⟨rfl, rfl, rfl, fun d' hd' => ⟨nm', L', b', by have e4 := hd' 4; have e10 := hd' 10; simp at e4 e10; rw [e4, e10]; exact hMM⟩⟩
              · simp at ho
            · intro d S' O' I' hall hb hv' hMem
              obtain ⟨nm', L', b', hMM⟩ := hMem
              rw [hall 4 (by decide), hall 10 (by decide), if_pos rfl] at hMM
              have c1 := hb _ (.head _)
              have c4 := hb _ (.tail _ (.head _))
              have c5 := hb _ (.tail _ (.tail _ (.head _)))
              have c7 := hb _ (.tail _ (.tail _ (.tail _ (.head _))))
              have c47 := hb _ (.tail _ (.tail _ (.tail _ (.tail _ (.head _)))))
              have c48 := hb _ (.tail _ (.tail _ (.tail _ (.tail _ (.tail _ (.head _))))))
              have c49 := hb _ (.tail _ (.tail _ (.tail _ (.tail _ (.tail _ (.tail _ (.head _)))))))
              have c11 := hb _ (.tail _ (.tail _ (.tail _ (.tail _ (.tail _ (.tail _ (.tail _ (.tail _ (.head _)))))))))
              have c77 := hv' (77, .v (.bool false)) (by simp)
              dsimp only at c1 c4 c5 c7 c47 c48 c49 c11 c77
              refine k_seq ?_
              refine s_subS (τ := ⟨127, [(1, .sl 3 (l.map rowO)), (4, .v (.bool false)), (5, .ptr 3 0 0), (7, .ptr 5 0 0), (47, .sl 3 (l.map rowO)), (48, .v (.int .i64 (l.length : Int))), (49, .v (.int .i64 (k : Int))), (11, .ref y 0 key.length), (77, .v (.bool false))], _, _⟩) (SubS.of rfl (fun p hp => by
                simp only [List.mem_cons, List.not_mem_nil, or_false] at hp
                rcases hp with rfl | rfl | rfl | rfl | rfl | rfl | rfl | rfl | rfl <;> assumption) rfl rfl) ?_
              refine amStr (h := ?_)
              exact ⟨rfl, _, _, nm', L', b', SubS.of rfl (by simp) rfl rfl, hMM⟩
          obtain ⟨O4, I4, nm4, L4, b4, hsub, hMM⟩ := hM2
          refine s_subS hsub ?_
          clear hsub
          have HMM := Lib.hid hMM
          clear hMM
          refine amStr (h := ?_)
          refine amReg PTv_ok (h := ?_)
          refine amStr (h := ?_)
          refine s_loopS (J := fun q : {q : List (Nat × AObj) × List Int × Nat // Hid (CcM most y bd q.2.1 ⟨57, 3, [[.v (.int .u8 w), .sl 1 (key.map fun x => [.v (.int .u8 x)]), .v (.int .i64 v)]]⟩ E2 E2 q.1 I4 nm4 L4 b4) ∧ q.2.1.length = key.length ∧ q.2.2 ≤ key.length} => ⟨127, [(1, .sl 3 (l.map rowO)), (4, .v (.bool false)), (5, .ptr 3 0 0), (7, .ptr 5 0 0), (47, .sl 3 (l.map rowO)), (48, .v (.int .i64 (l.length : Int))), (49, .v (.int .i64 (k : Int))), (11, .ref y 0 key.length), (79, .v (.int .i64 (key.length : Int))), (80, .v (.int .i64 (q.1.2.2 : Int)))], q.1.1, I4⟩) (μ := fun q => key.length - q.1.2.2) ⟨(O4, key, 0), HMM, rfl, Nat.zero_le _⟩ (SubS.of rfl (by simp) rfl rfl) (fun ⟨⟨O5, ky, n⟩, HM5, hky, hn⟩ => ?_)
          clear HMM
          dsimp only at HM5 hky hn
          dsimp only
          refine amStr (h := ?_)
          refine amReg PTv_ok (h := ?_)
          refine amStr (h := ?_)
          (focus ((with_reducible refine sp_cond (b := ?_) ?_ (fun hc => ?_) (fun hc => ?_)); rotate_left; (focus (first | rfl | (simp [lk, AS.ev]; rfl))); all_goals (try simp at hc)))
          · rename_i hcn
            have hnn : n < key.length := by omega
            clear hcn
            have hwn : IntKind.i64.wrap ((n : Int) + 1) = (n : Int) + 1 := i64w (by omega) (by omega)
            have hly := HM5.out.ly
            have hyI4 := HM5.out.yI
            unfold u8O at hly
            have hgy : (ky.map fun x => [AV.v (.int .u8 x)]).getD n [] = [.v (.int .u8 (ky.getD n 0))] := by simp [List.getD, show n < ky.length by omega]
            obtain ⟨u, hu⟩ : ∃ u, ky.getD n 0 = u := ⟨_, rfl⟩
            rw [hu] at hgy
            have hset : (ky.map fun x => [AV.v (.int .u8 x)]).set n [.v (.int .u8 (IntKind.u8.wrap (u + 1)))] = (ky.set n (IntKind.u8.wrap (u + 1))).map fun x => [AV.v (.int .u8 x)] := by rw [List.map_set]
            have hnk : n < ky.length := by omega
            have HM6 := Lib.hid (HM5.out.bytes (key' := ky.set n (IntKind.u8.wrap (u + 1))) hyb)
            have HS := Lib.hid hset
            clear hset hu
            obtain ⟨U, hU⟩ : ∃ U, IntKind.u8.wrap (u + 1) = U := ⟨_, rfl⟩
            rw [hU] at HM6 HS
            refine amStr (h := ?_)
            refine amReg PTv_ok (h := ?_)
            refine amStr (h := ?_)
            refine amReg PTv_ok (h := ?_)
            refine amStr (h := ?_)
            refine amReg PTv_ok (h := ?_)
            refine amStr (h := ?_)
            refine ks_lp (⟨(_, ky.set n U, n + 1), HM6, by rw [List.length_set]; exact hky, hnn⟩ : {q : List (Nat × AObj) × List Int × Nat // Hid (CcM most y bd q.2.1 ⟨57, 3, [[.v (.int .u8 w), .sl 1 (key.map fun x => [.v (.int .u8 x)]), .v (.int .i64 v)]]⟩ E2 E2 q.1 I4 nm4 L4 b4) ∧ q.2.1.length = key.length ∧ q.2.2 ≤ key.length}) (by dsimp only; omega) ?_
            refine SubS.of rfl ?_ ?_ rfl
            · simp
            · show st O5 y ⟨5, 1, (ky.map fun x => [AV.v (.int .u8 x)]).set n [.v (.int .u8 U)]⟩ = st O5 y (u8O (ky.set n U))
              rw [HS.out]
              rfl
          · rename_i hcn
            obtain rfl : n = key.length := by omega
            clear hcn
            refine amStr (h := ?_)
            refine ks_exit ?_
            refine amStr (h := ?_)
            exact ⟨rfl, O5, I4, nm4, L4, b4, SubS.of rfl (by simp) rfl rfl, by rw [HKY.out]; exact HM5.out.cc⟩
      · obtain ⟨O4, I4, nm4, L4, b4, hsub, hCC⟩ := hM
        refine s_subS hsub ?_
        clear hsub HM HE
        have HC := Lib.hid hCC
        clear hCC
        refine s_cut (M := fun τ => ∃ O5 I5 b5, SubS τ ⟨127, [(1, .sl 3 (l.map rowO)), (4, .v (.bool false)), (5, .ptr 3 0 0), (7, .ptr 5 0 0), (47, .sl 3 (l.map rowO)), (48, .v (.int .i64 (l.length : Int))), (49, .v (.int .i64 (k : Int)))], O5, I5⟩ ∧ CcI most (esC most l (k + 1)) (esC most l (k + 1)) O5 I5 nm4 L4 b5) ?_ fun τ hM => ?_
        · refine amStr (h := ?_)
          refine amReg PTv_ok (h := ?_)
          refine amStr (h := ?_)
          refine s_loopS (J := fun q : {q : List (Nat × AObj) × List Nat × Nat × Nat // Hid (CcI most (esC most l (k + 1)) (esC most l (k + 1)) q.1 q.2.1 nm4 L4 q.2.2.1) ∧ q.2.2.2 ≤ l.length} => ⟨127, [(1, .sl 3 (l.map rowO)), (4, .v (.bool false)), (5, .ptr 3 0 0), (7, .ptr 5 0 0), (47, .sl 3 (l.map rowO)), (48, .v (.int .i64 (l.length : Int))), (49, .v (.int .i64 (k : Int))), (90, .sl 3 (l.map rowO)), (91, .v (.int .i64 (l.length : Int))), (92, .v (.int .i64 (q.1.2.2.2 : Int)))], q.1.1, q.1.2.1⟩) (μ := fun q => l.length - q.1.2.2.2) ⟨(O4, I4, b4, 0), HC, Nat.zero_le _⟩ (SubS.of rfl (by simp) rfl rfl) (fun ⟨⟨O5, I5, b5, n⟩, HC5, hn⟩ => ?_)
          clear HC
          dsimp only at HC5 hn
          dsimp only
          refine amStr (h := ?_)
          refine amReg PTv_ok (h := ?_)
          refine amStr (h := ?_)
          (focus ((with_reducible refine sp_cond (b := ?_) ?_ (fun hc => ?_) (fun hc => ?_)); rotate_left; (focus (first | rfl | (simp [lk, AS.ev]; rfl))); all_goals (try simp at hc)))
          · rename_i hcn
            have hnn : n < l.length := by omega
            clear hcn
            have hwn : IntKind.i64.wrap ((n : Int) + 1) = (n : Int) + 1 := i64w (by omega) (by omega)
            have hg := rowO_get hnn
            have hox : okO l[n] = true := by
              unfold okOps at hO
              rw [List.all_eq_true] at hO
              exact hO _ (List.getElem_mem hnn)
            obtain ⟨⟨w2, key2, v2⟩, hx⟩ : ∃ x, l[n] = x := ⟨_, rfl⟩
            rw [hx] at hg hox
            unfold okO at hox
            simp only [Bool.and_eq_true, decide_eq_true_eq] at hox
            obtain ⟨⟨_, hkb2⟩, _⟩ := hox
            have hg2 : (l.map rowO).getD n [] = [.v (.int .u8 w2), .sl 1 (key2.map fun x => [.v (.int .u8 x)]), .v (.int .i64 v2)] := hg
            clear hg hx
            have hbI5 : b5 ∉ I5 := fun h => by have := HC5.out.hi _ h; omega
            have HC6 := Lib.hid (HC5.out.more (O1 := st O5 b5 ⟨57, 3, [[.v (.int .u8 w2), .sl 1 (key2.map fun x => [.v (.int .u8 x)]), .v (.int .i64 v2)]]⟩) (I1 := b5 :: I5) (b2 := b5 + 1) (fun q hq => by rw [lk_st, if_neg (by omega)]) (fun q hq => List.mem_cons_of_mem _ hq) (fun q hq => by
              rcases List.mem_cons.1 hq with rfl | hq
              · omega
              · have := HC5.out.hi _ hq; omega))
            have hb51 : lk (st O5 b5 ⟨57, 3, [[.v (.int .u8 w2), .sl 1 (key2.map fun x => [.v (.int .u8 x)]), .v (.int .i64 v2)]]⟩) b5 = some ⟨57, 3, [[.v (.int .u8 w2), .sl 1 (key2.map fun x => [.v (.int .u8 x)]), .v (.int .i64 v2)]]⟩ := by rw [lk_st, if_pos rfl]
            refine amStr (h := ?_)
            refine s_regionL ?_
            ((iterate 2 (((with_reducible refine spl_step TT_ok PTv_ok (id := 0) (σ' := ?_) ?_ ?_); rotate_left; (focus (simp [*]; rfl))))))
            (((with_reducible refine spl_step TT_ok PTv_ok (id := b5) (σ' := ?_) ?_ ?_); rotate_left; (focus (simp [*]; rfl))))
            ((iterate 1 (((with_reducible refine spl_step TT_ok PTv_ok (id := 0) (σ' := ?_) ?_ ?_); rotate_left; (focus (simp [*]; rfl))))))
            refine spl_nil ?_
            refine k_seq ?_
            refine s_subS (τ := ⟨127, [(1, .sl 3 (l.map rowO)), (4, .v (.bool false)), (5, .ptr 3 0 0), (7, .ptr 5 0 0), (47, .sl 3 (l.map rowO)), (48, .v (.int .i64 (l.length : Int))), (49, .v (.int .i64 (k : Int))), (90, .sl 3 (l.map rowO)), (91, .v (.int .i64 (l.length : Int))), (92, .v (.int .i64 (n : Int))), (14, .ptr b5 0 0)], st O5 b5 ⟨57, 3, [[.v (.int .u8 w2), .sl 1 (key2.map fun x => [.v (.int .u8 x)]), .v (.int .i64 v2)]]⟩, b5 :: I5⟩) (SubS.ofL rfl (by simp) (fun q => by by_cases e : b5 = q <;> simp [e]) (by simp)) ?_
            generalize (st O5 b5 ⟨57, 3, [[.v (.int .u8 w2), .sl 1 (key2.map fun x => [.v (.int .u8 x)]), .v (.int .i64 v2)]]⟩) = O6 at HC6 hb51 ⊢
            generalize b5 :: I5 = I6 at HC6 ⊢
            have hel := use_len (esC most l (k + 1))
            have hroom := HC6.out.ca.room
            refine amStr (h := ?_)
            refine s_regionL ?_
            ((iterate 3 (((with_reducible refine spl_step TT_ok PTv_ok (id := 0) (σ' := ?_) ?_ ?_); rotate_left; (focus (simp [*]; rfl))))))
            refine spl_procB TT_ok rfl rfl rfl (by kernel_rfl) Tryd.func29 (avs := [.ptr 3 0 0, aB key2]) (cs := []) rfl rfl (by simp [Tryd.ntmps29]) (get_procB HC6.out.ca hkb2) fun av O7 I7 hK => ?_
            obtain ⟨hav, rfl, rfl⟩ := hK
            obtain ⟨G, hG⟩ : ∃ G, getZ (esC most l (k + 1)) key2 = G := ⟨_, rfl⟩
            rw [hG] at hav
            have HG := Lib.hid hG
            clear hG
            have hgr := rget_proc (O := O7) (I := I7) (ks := key2) HC6.out.rf hkb2 (by omega)
            rw [HG.out] at hgr
            have HGR := Lib.hid hgr
            clear hgr
            cases G with
            | none =>
              subst hav
              unfold gotZ
              ((iterate 5 (((with_reducible refine spl_step TT_ok PTv_ok (id := 0) (σ' := ?_) ?_ ?_); rotate_left; (focus (simp [*]; rfl))))))
              refine spl_nil ?_
              refine amStr (h := ?_)
              refine s_regionL ?_
              ((iterate 3 (((with_reducible refine spl_step TT_ok PTv_ok (id := 0) (σ' := ?_) ?_ ?_); rotate_left; (focus (simp [*]; rfl))))))
              refine spl_procB TT_ok rfl rfl rfl (by kernel_rfl) Tryd.func30 (avs := [.ptr 5 0 0, .v (.string (strOfNums key2))]) (cs := []) rfl rfl (by simp [Tryd.ntmps30]) HGR.out fun av O8 I8 hK => ?_
              obtain ⟨rfl, rfl, rfl⟩ := hK
              unfold gotZ
              ((iterate 5 (((with_reducible refine spl_step TT_ok PTv_ok (id := 0) (σ' := ?_) ?_ ?_); rotate_left; (focus (simp [*]; rfl))))))
              refine spl_nil ?_
              refine amStr (h := ?_)
              refine amReg PTv_ok (h := ?_)
              refine amStr (h := ?_)
              refine amReg PTv_ok (h := ?_)
              refine amStr (h := ?_)
              refine ks_lp (⟨(_, _, b5 + 1, n + 1), HC6, hnn⟩ : {q : List (Nat × AObj) × List Nat × Nat × Nat // Hid (CcI most (esC most l (k + 1)) (esC most l (k + 1)) q.1 q.2.1 nm4 L4 q.2.2.1) ∧ q.2.2.2 ≤ l.length}) (by dsimp only; omega) ?_
              refine SubS.of rfl ?_ rfl rfl
              simp
            | some g =>
              subst hav
              unfold gotZ
              ((iterate 5 (((with_reducible refine spl_step TT_ok PTv_ok (id := 0) (σ' := ?_) ?_ ?_); rotate_left; (focus (simp [*]; rfl))))))
              refine spl_nil ?_
              refine amStr (h := ?_)
              refine s_regionL ?_
              ((iterate 3 (((with_reducible refine spl_step TT_ok PTv_ok (id := 0) (σ' := ?_) ?_ ?_); rotate_left; (focus (simp [*]; rfl))))))
              refine spl_procB TT_ok rfl rfl rfl (by kernel_rfl) Tryd.func30 (avs := [.ptr 5 0 0, .v (.string (strOfNums key2))]) (cs := []) rfl rfl (by simp [Tryd.ntmps30]) HGR.out fun av O8 I8 hK => ?_
              obtain ⟨rfl, rfl, rfl⟩ := hK
              unfold gotZ
              ((iterate 5 (((with_reducible refine spl_step TT_ok PTv_ok (id := 0) (σ' := ?_) ?_ ?_); rotate_left; (focus (simp [*]; rfl))))))
              refine spl_nil ?_
              refine amStr (h := ?_)
              refine amReg PTv_ok (h := ?_)
              refine amStr (h := ?_)
              refine amReg PTv_ok (h := ?_)
              refine amStr (h := ?_)
              refine ks_lp (⟨(_, _, b5 + 1, n + 1), HC6, hnn⟩ : {q : List (Nat × AObj) × List Nat × Nat × Nat // Hid (CcI most (esC most l (k + 1)) (esC most l (k + 1)) q.1 q.2.1 nm4 L4 q.2.2.1) ∧ q.2.2.2 ≤ l.length}) (by dsimp only; omega) ?_
              refine SubS.of rfl ?_ rfl rfl
              simp
          · rename_i hcn
            obtain rfl : n = l.length := by omega
            clear hcn
            refine amStr (h := ?_)
            refine ks_exit ?_
            refine amStr (h := ?_)
            exact ⟨rfl, O5, I5, b5, SubS.of rfl (by simp) rfl rfl, HC5.out⟩
        · obtain ⟨O5, I5, b5, hsub, hCC⟩ := hM
          refine s_subS hsub ?_
          clear hsub HC
          have hlp := len_proc hCC.ca
          obtain ⟨N, hN⟩ : ∃ N, (esC most l (k + 1)).length = N := ⟨_, rfl⟩
          have hlen : L4 = .v (.slice none 0 0) ∧ N = 0 ∨ ∃ r, L4 = .ref r 0 N := by
            rcases hCC.rf.hl with ⟨h1, h2⟩ | ⟨r, h1, _⟩
            · rw [h1] at hN; exact .inl ⟨h2, hN.symm⟩
            · rw [hN] at h1; exact .inr ⟨r, h1⟩
          rw [hN] at hlp
          have hrc := hCC.rf.hc
          unfold rcO at hrc
          have HC := Lib.hid hCC
          have HLP := Lib.hid hlp
          clear hCC hN hlp
          refine s_seq ?_
          refine s_drawV prog_mixed (N := 127) (bs := [(1, .sl 3 (l.map rowO)), (4, .v (.bool false)), (5, .ptr 3 0 0), (7, .ptr 5 0 0), (47, .sl 3 (l.map rowO)), (48, .v (.int .i64 (l.length : Int))), (49, .v (.int .i64 (k : Int)))]) (vs := [(119, .ptr 3 0 0), (120, .v (.int .i64 (N : Int))), (121, .ptr 5 0 1), (122, L4), (123, .v (.int .i64 (N : Int))), (124, .v (.bool false))]) (Mem := fun _ O' I' => O' = O5 ∧ I' = I5) rfl (by simp) ⟨rfl, rfl⟩ rfl (show ([1, 4, 5, 7, 47, 48, 49, 119, 120, 121, 122, 123, 124] : List Nat).Nodup from by decide) (by kernel_rfl) ?_ ?_
          · intro d S' O' I' i o p ho hp hd hdep hb hv' hMem
            obtain ⟨hO', hI'⟩ := hMem
            subst hO' hI'
            have c5 := hb _ (.tail _ (.tail _ (.head _)))
            have c7 := hb _ (.tail _ (.tail _ (.tail _ (.head _))))
            have h119 := hv' 0 _ rfl
            have h120 := hv' 1 _ rfl
            have h121 := hv' 2 _ rfl
            have h122 := hv' 3 _ rfl
            have h123 := hv' 4 _ rfl
            dsimp only at c5 c7 h119 h120 h121 h122 h123
            clear hb hv'
            rcases i with _ | _ | _ | _ | _ | _ | i
            · cases ho
              cases hp
              simp [Region.binds] at hdep
              ((iterate 1 (((with_reducible refine spl_step TT_ok PTv_ok (id := 0) (σ' := ?_) ?_ ?_); rotate_left; (focus (simp [*]; rfl))))))
              exact spl_nil ⟨rfl, rfl, rfl, fun _ _ => ⟨rfl, rfl⟩⟩
            · cases ho
              cases hp
              simp [Region.binds] at hdep
              have g119 := h119 hdep
              refine spl_procB TT_ok (by rfl) (by rfl) rfl (by kernel_rfl) Tryd.func31 (avs := [.ptr 3 0 0]) (cs := []) rfl (by simp [*]) (by simp [Tryd.ntmps31]) HLP.out fun av O6 I6 hK => ?_
              obtain ⟨rfl, rfl, rfl⟩ := hK
              exact spl_nil ⟨rfl, rfl, rfl, fun _ _ => ⟨rfl, rfl⟩⟩
            · cases ho
              cases hp
              simp [Region.binds] at hdep
              ((iterate 1 (((with_reducible refine spl_step TT_ok PTv_ok (id := 0) (σ' := ?_) ?_ ?_); rotate_left; (focus (simp [*]; rfl))))))
              exact spl_nil ⟨rfl, rfl, rfl, fun _ _ => ⟨rfl, rfl⟩⟩
            · cases ho
              cases hp
              simp [Region.binds] at hdep
              have g121 := h121 hdep
              rcases hlen with ⟨rfl, rfl⟩ | ⟨r, rfl⟩
              · ((iterate 1 (((with_reducible refine spl_step TT_ok PTv_ok (id := 0) (σ' := ?_) ?_ ?_); rotate_left; (focus (simp [*]; rfl))))))
                exact spl_nil ⟨rfl, rfl, rfl, fun _ _ => ⟨rfl, rfl⟩⟩
              · ((iterate 1 (((with_reducible refine spl_step TT_ok PTv_ok (id := 0) (σ' := ?_) ?_ ?_); rotate_left; (focus (simp [*]; rfl))))))
                exact spl_nil ⟨rfl, rfl, rfl, fun _ _ => ⟨rfl, rfl⟩⟩
            · cases ho
              cases hp
              simp [Region.binds] at hdep
              have g122 := h122 hdep
              rcases hlen with ⟨rfl, rfl⟩ | ⟨r, rfl⟩
              · ((iterate 1 (((with_reducible refine spl_step TT_ok PTv_ok (id := 0) (σ' := ?_) ?_ ?_); rotate_left; (focus (simp [*]; rfl))))))
                exact spl_nil ⟨rfl, rfl, rfl, fun _ _ => ⟨rfl, rfl⟩⟩
              · ((iterate 1 (((with_reducible refine spl_step TT_ok PTv_ok (id := 0) (σ' := ?_) ?_ ?_); rotate_left; (focus (simp [*]; rfl))))))
                exact spl_nil ⟨rfl, rfl, rfl, fun _ _ => ⟨rfl, rfl⟩⟩
            · cases ho
              cases hp
              simp [Region.binds] at hdep
              ((iterate 1 (((with_reducible refine spl_step TT_ok PTv_ok (id := 0) (σ' := ?_) ?_ ?_); rotate_left; (focus (simp [*]; rfl))))))
              exact spl_nil ⟨rfl, rfl, rfl, fun _ _ => ⟨rfl, rfl⟩⟩
            · simp at ho
          · intro d S' O' I' hall hb hv' hMem
            obtain ⟨hO', hI'⟩ := hMem
            subst hO' hI'
            have c1 := hb _ (.head _)
            have c4 := hb _ (.tail _ (.head _))
            have c5 := hb _ (.tail _ (.tail _ (.head _)))
            have c7 := hb _ (.tail _ (.tail _ (.tail _ (.head _))))
            have c47 := hb _ (.tail _ (.tail _ (.tail _ (.tail _ (.head _)))))
            have c48 := hb _ (.tail _ (.tail _ (.tail _ (.tail _ (.tail _ (.head _))))))
            have c49 := hb _ (.tail _ (.tail _ (.tail _ (.tail _ (.tail _ (.tail _ (.head _)))))))
            have c124 := hv' (124, .v (.bool false)) (by simp)
            dsimp only at c1 c4 c5 c7 c47 c48 c49 c124
            refine k_seq ?_
            refine s_subS (τ := ⟨127, [(1, .sl 3 (l.map rowO)), (4, .v (.bool false)), (5, .ptr 3 0 0), (7, .ptr 5 0 0), (47, .sl 3 (l.map rowO)), (48, .v (.int .i64 (l.length : Int))), (49, .v (.int .i64 (k : Int))), (124, .v (.bool false))], _, _⟩) (SubS.of rfl (fun p hp => by
              simp only [List.mem_cons, List.not_mem_nil, or_false] at hp
              rcases hp with rfl | rfl | rfl | rfl | rfl | rfl | rfl | rfl <;> assumption) rfl rfl) ?_
            refine amStr (h := ?_)
            refine amReg PTv_ok (h := ?_)
            refine amStr (h := ?_)
            refine ks_lp (⟨(_, _, nm4, L4, b5, k + 1), HC, hkk⟩ : {y : List (Nat × AObj) × List Nat × (Nat → Nat) × AV × Nat × Nat // Hid (CcI most (esC most l y.2.2.2.2.2) (esC most l y.2.2.2.2.2) y.1 y.2.1 y.2.2.1 y.2.2.2.1 y.2.2.2.2.1) ∧ y.2.2.2.2.2 ≤ l.length}) (by dsimp only; omega) ?_
            refine SubS.of rfl ?_ rfl rfl
            simp
  · obtain rfl : k = l.length := by omega
    clear hc
    refine amStr (h := ?_)
    refine ks_exit ?_
    refine amStr (h := ?_)
    refine amReg PTv_ok (h := ?_)
    refine amStr (h := ?_)
    ((refine post_ret (av := ?_) (by first | exact .inl rfl | exact .inr rfl) (show (Tryd.f7).results.toList = _ from by rw [Tryd.results7]) ?_ ?_); rotate_left; (focus (simp [retA, retL, ret1, lk, st, ldA, AV.cell]; rfl)); (try simp [*]))
set_option maxHeartbeats 2000000 in
theorem caches_big (most : Int) (l : List OpC) (hm0 : 0 ≤ most) (hm1 : most ≤ 1073741824) (hl : 200 < (l.length : Int)) : FnPure Tryd.prog 7 [.v (.int .i64 most), aOps l] (.v (.bool true)) := by
  unfold aOps
  refine fn_sp TT_ok Tryd.func7 (c := _) rfl (by simp [Tryd.ntmps7]) (fun B hI0 hro => ?_)
  rw [Tryd.ntmps7]
  simp only [enumA]
  refine amStr (h := ?_)
  refine amReg PTv_ok (h := ?_)
  refine amStr (h := ?_)
  refine s_regionL ?_
  ((iterate 1 (((with_reducible refine spl_step TT_ok PTv_ok (id := 0) (σ' := ?_) ?_ ?_); rotate_left; (focus (simp [*]; rfl))))))
  refine spl_procB TT_ok rfl rfl rfl (by kernel_rfl) Tryd.func25 (avs := [.v (.int .i64 most)]) (cs := []) rfl rfl (by simp [Tryd.ntmps25]) (new_proc (c := 3) (m := 1) (s := 2) hm0 hm1 (by simp) (by simp) (by simp) (by omega) (by omega) (by omega)) fun av O1 I1 hK => ?_
  obtain ⟨rfl, rfl, k1, k2⟩ := hK
  ((iterate 5 (((with_reducible refine spl_step TT_ok PTv_ok (id := 0) (σ' := ?_) ?_ ?_); rotate_left; (focus (simp [*]; rfl))))))
  refine spl_nil ?_
  refine amStr (h := ?_)
  refine s_regionL ?_
  ((iterate 1 (((with_reducible refine spl_step TT_ok PTv_ok (id := 0) (σ' := ?_) ?_ ?_); rotate_left; (focus (simp [*]; rfl))))))
  refine spl_procB TT_ok rfl rfl rfl (by kernel_rfl) Tryd.func26 (avs := [.v (.int .i64 most)]) (cs := []) rfl rfl (by simp [Tryd.ntmps26]) (rnew_yes (x := 4) (by simp) hm0 hm1) fun av O2 I2 hK => ?_
  obtain ⟨rfl, rfl, k3⟩ := hK
  ((iterate 3 (((with_reducible refine spl_step TT_ok PTv_ok (id := 0) (σ' := ?_) ?_ ?_); rotate_left; (focus (simp [*]; rfl))))))
  (((with_reducible refine spl_step TT_ok PTv_ok (id := 5) (σ' := ?_) ?_ ?_); rotate_left; (focus (simp [*]; rfl))))
  ((iterate 2 (((with_reducible refine spl_step TT_ok PTv_ok (id := 0) (σ' := ?_) ?_ ?_); rotate_left; (focus (simp [*]; rfl))))))
  refine spl_nil ?_
  clear k1 k2 k3
  refine amStr (h := ?_)
  refine amReg PTv_ok (h := ?_)
  refine amStr (h := ?_)
  refine amReg PTv_ok (h := ?_)
  refine amStr (h := ?_)
  refine amReg PTv_ok (h := ?_)
  refine amStr (h := ?_)
  ((refine post_ret (av := ?_) (by first | exact .inl rfl | exact .inr rfl) (show (Tryd.f7).results.toList = _ from by rw [Tryd.results7]) ?_ ?_); rotate_left; (focus (simp [retA, retL, ret1, lk, st, ldA, AV.cell]; rfl)); (try simp [*]))
set_option maxHeartbeats 2000000 in
theorem caches_no (most : Int) (l : List OpC) (hm : most < 0 ∨ 1073741824 < most) : FnPure Tryd.prog 7 [.v (.int .i64 most), aOps l] (.v (.bool true)) := by
  unfold aOps
  refine fn_sp TT_ok Tryd.func7 (c := _) rfl (by simp [Tryd.ntmps7]) (fun B hI0 hro => ?_)
  rw [Tryd.ntmps7]
  simp only [enumA]
  refine amStr (h := ?_)
  refine amReg PTv_ok (h := ?_)
  refine amStr (h := ?_)
  refine s_regionL ?_
  ((iterate 1 (((with_reducible refine spl_step TT_ok PTv_ok (id := 0) (σ' := ?_) ?_ ?_); rotate_left; (focus (simp [*]; rfl))))))
  refine spl_procB TT_ok rfl rfl rfl (by kernel_rfl) Tryd.func25 (avs := [.v (.int .i64 most)]) (cs := []) rfl rfl (by simp [Tryd.ntmps25]) (new_no hm) fun av O1 I1 hK => ?_
  obtain ⟨rfl, rfl, rfl⟩ := hK
  ((iterate 5 (((with_reducible refine spl_step TT_ok PTv_ok (id := 0) (σ' := ?_) ?_ ?_); rotate_left; (focus (simp [*]; rfl))))))
  refine spl_nil ?_
  refine amStr (h := ?_)
  refine s_regionL ?_
  ((iterate 1 (((with_reducible refine spl_step TT_ok PTv_ok (id := 0) (σ' := ?_) ?_ ?_); rotate_left; (focus (simp [*]; rfl))))))
  refine spl_procB TT_ok rfl rfl rfl (by kernel_rfl) Tryd.func26 (avs := [.v (.int .i64 most)]) (cs := []) rfl rfl (by simp [Tryd.ntmps26]) (rnew_no (x := 4) (by simp) hm) fun av O2 I2 hK => ?_
  obtain ⟨rfl, rfl, k3⟩ := hK
  ((iterate 3 (((with_reducible refine spl_step TT_ok PTv_ok (id := 0) (σ' := ?_) ?_ ?_); rotate_left; (focus (simp [*]; rfl))))))
  (((with_reducible refine spl_step TT_ok PTv_ok (id := 5) (σ' := ?_) ?_ ?_); rotate_left; (focus (simp [*]; rfl))))
  ((iterate 2 (((with_reducible refine spl_step TT_ok PTv_ok (id := 0) (σ' := ?_) ?_ ?_); rotate_left; (focus (simp [*]; rfl))))))
  refine spl_nil ?_
  clear k3
  refine amStr (h := ?_)
  refine amReg PTv_ok (h := ?_)
  refine amStr (h := ?_)
  refine amReg PTv_ok (h := ?_)
  refine amStr (h := ?_)
  refine amReg PTv_ok (h := ?_)
  refine amStr (h := ?_)
  ((refine post_ret (av := ?_) (by first | exact .inl rfl | exact .inr rfl) (show (Tryd.f7).results.toList = _ from by rw [Tryd.results7]) ?_ ?_); rotate_left; (focus (simp [retA, retL, ret1, lk, st, ldA, AV.cell]; rfl)); (try simp [*]))
theorem canonCaches_p (most : Int) (l : List OpC) (hO : okOps l = true) : FnPure Tryd.prog 7 [.v (.int .i64 most), aOps l] (.v (.bool true)) := by
  by_cases hm : most < 0 ∨ 1073741824 < most
  · exact caches_no most l hm
  · by_cases hl : l.length ≤ 200
    · exact caches_ok most l (by omega) (by omega) hO hl
    · exact caches_big most l (by omega) (by omega) (by omega)
namespace canonCaches
set_option maxRecDepth 100000
theorem contract (H : Type) (enc : TypeId × Value → H) (W : World) (base : Nat) (args : Array Value) (ds gs : List (DataW H)) (before : List MemPlace)
    (hval0 : ∀ (j : Nat) t v, (Go.Proofs.Tryd.f7).params[j]? = some t → args[j]? = some v → Value.okWide Tryd.prog W .any base t v)
    (hW : DataW.Whole enc Tryd.prog (Go.Proofs.Tryd.f7).params.toList Rows.canonCachesSpec.vars false W args.toList ds gs before) (hL : laidMetH Tryd.prog Rows.canonCachesRow.laid W) :
    Calls Tryd.prog 7 args W fun e W' => ∃ v, e = .returned v ∧ Rows.canonCachesSpec.post enc Tryd.prog Go.Proofs.Tryd.f7 false true false false W args v W' := by
  have hval : ∀ (j : Nat) t v, (Go.Proofs.Tryd.f7).params[j]? = some t → args[j]? = some v → Value.okWide Tryd.prog W .any base t v := hval0
  have hW2 := hW
  obtain ⟨p, q, hA0, hV, _, _, _⟩ := hW
  have hA : DataW.TrodAll enc Tryd.prog W 0 (fun _ => true) true (Go.Proofs.Tryd.f7).params.toList args.toList ds p := hA0
  rw [Tryd.params7] at hA hval
  clear hA0 hval0
  obtain ⟨rfl, _⟩ := trodVars_none hV
  obtain ⟨v0, vs0, d0, ds0, p0, q0, hargs, rfl, _, h0, r0⟩ := trodAll_cons hA
  obtain ⟨v1, vs1, d1, ds1, p1, q1, rfl, rfl, _, h1, r1⟩ := trodAll_cons r0
  obtain ⟨rfl, rfl, _⟩ := trodAll_nil r1
  obtain rfl : args = #[v0, v1] := by cases args; simp_all
  obtain ⟨most, ra0, o0⟩ := arg_i64 (hval 0 _ v0 rfl rfl) h0
  obtain ⟨l, ra1, oO1⟩ := arg_ops (hval 1 _ v1 rfl rfl) h1
  refine law_of_pure (glob_of_laid hL) (avs := [.v (.int .i64 most), aOps l]) (by kernel_rfl) hW2 rfl (rec_ok (by kernel_rfl)) (tb := 4) rfl Tryd.underlying4 rfl rfl rfl rfl (fun i hi => ?_) (canonCaches_p most l oO1)
  match i, hi with
  | 0, _ => exact ra0
  | 1, _ => exact ra1
theorem laid_met (os : Os) : laidMet Tryd.prog Rows.canonCachesRow.laid ((laidWorld os).forCall (fun _ _ => 0) ⟨#[], #[.int .i64 0, .slice none 0 0], []⟩).memory :=
  laidMet_of_run' 8 (by kernel_rfl) (by kernel_rfl)
theorem lifted (os : Os) (started : os.Started) (H : Type) (enc : TypeId × Value → H) (F : Stop.Interp) :
    ReturnsInHanded {} Tryd.checked os 7 .any ((OpenSpec.ofChange Rows.canonCachesSpec).preRow enc Tryd.prog Go.Proofs.Tryd.f7 Rows.canonCachesRow.domain false Rows.canonCachesRow.laid) (((OpenSpec.ofChange Rows.canonCachesSpec).at F).post enc Tryd.prog Go.Proofs.Tryd.f7 false true false false) := by
  refine returnsInHanded_of_row (C := Tryd.checked) (s := OpenSpec.ofChange Rows.canonCachesSpec) (by kernel_rfl) started (by kernel_rfl) Tryd.func7
    (witness_row_at (enc := enc) (C := Tryd.checked) false (laidWorld os) #[.int .i64 0, .slice none 0 0] rfl (by kernel_rfl) (by kernel_rfl) (by kernel_rfl)
      (OpenSpec.preRow_of_cond 8 (show DataW.whole enc Tryd.prog ((laidWorld os).forCall (fun _ _ => 0) ⟨#[], #[.int .i64 0, .slice none 0 0], []⟩).memory (Go.Proofs.Tryd.f7).params.toList Rows.canonCachesSpec.vars false (#[.int .i64 0, .slice none 0 0] : Array Value).toList 8 = some ([.lit (.int .i64 0), .nil], [], []) by kernel_rfl) (by kernel_rfl) (fun k hk => by cases hk) (by kernel_rfl) (laid_met os))) ?_
  intro W base args ds gs before hval hW _ _ _ hL _ _
  exact contract H enc W base args ds gs before hval hW hL
theorem said : Rows.CanonCachesSaid :=
  OpenClaim.holds_of_cond 7 Go.Proofs.Tryd.f7 rfl rfl rfl rfl rfl rfl rfl ⟨rfl, rfl, rfl, rfl, rfl⟩ rfl rfl rfl rfl rfl (by kernel_rfl) Tryd.func7 (by kernel_rfl)
    (of_decide_eq_true (by kernel_rfl)) (by unfold Func.isWrapper; first | (rw [if_pos (by decide +kernel)]; kernel_rfl) | (rw [if_neg (by decide +kernel)]; exact ⟨rfl, rfl⟩))
    (fun os started H enc _ F => by rw [OpenClaim.pre_eq_preRow]; exact lifted os started H enc F)
theorem plain (f : FuncId) (fn : Func) (hf : Tryd.pinned.checked.prog.funcNamed "census/censuslaw17.CanonCaches" = some f) (hfn : Tryd.pinned.checked.prog.funcs[f]? = some fn) :
    false = Tryd.pinned.checked.prog.looks [] ∧ ∀ (j : Nat) t, fn.params[j]? = some t → Tryd.pinned.checked.prog.wantsStandIn t = false := by
  obtain rfl : f = 7 := Option.some.inj ((show Tryd.prog.funcNamed "census/censuslaw17.CanonCaches" = some 7 by kernel_rfl).symm.trans hf) |>.symm
  obtain rfl : fn = Go.Proofs.Tryd.f7 := (Option.some.inj (Tryd.func7.symm.trans hfn)).symm
  refine ⟨by kernel_rfl, fun j t ht => ?_⟩
  rw [Tryd.params7] at ht
  have hall : (Tryd.checked.prog.funcs[7]?).all (fun g => g.params.toList.all fun t => !(Tryd.checked.prog.wantsStandIn t)) = true := by kernel_rfl
  rw [show Tryd.checked.prog.funcs[7]? = some Go.Proofs.Tryd.f7 from Tryd.func7] at hall
  have h2 : ∀ t ∈ (Go.Proofs.Tryd.f7).params.toList, (!(Tryd.checked.prog.wantsStandIn t)) = true := List.all_eq_true.1 hall
  have hm : t ∈ (Go.Proofs.Tryd.f7).params.toList := by rw [Tryd.params7]; exact Array.mem_toList_iff.2 (Array.mem_of_getElem? ht)
  have h3 : Tryd.checked.prog.wantsStandIn t = false := by simpa using h2 t hm
  exact h3
theorem proved : Rows.CanonCachesCardSaid :=
  Claim7.holds_tied_plain_at .later [] _ _ _ _ said (fun _ h => by cases h) (by kernel_rfl) (fun _ h => by cases h) canonCaches_row_tie rfl ⟨rfl, rfl⟩ (by kernel_rfl) rfl plain (by kernel_rfl)
end canonCaches
end Go.Proofs.YtafikekndefjcaaDoor
