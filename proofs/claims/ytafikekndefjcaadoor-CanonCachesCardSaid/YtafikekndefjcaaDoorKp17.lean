/- Put; no condition. -/
import Derived.Test.YtafikekndefjcaaDoorKe17
import Derived.Test.YtafikekndefjcaaDoorWa
namespace Go.Proofs.YtafikekndefjcaaDoor
set_option linter.unusedVariables false
set_option linter.unusedSimpArgs false
set_option linter.unusedSectionVars false
open Go.RowKit
attribute [local simp] List.getD_cons_zero List.getD_cons_succ List.getD_nil undef gvars runL runE effA stepA dstOk wantA core lk st dl AS.ev AS.evs AS.put AS.upd updO updI nxt cPick cAlloc cBox cBuild cBuildS cLoad cStore cNil plainOf cBin cNilS isNilS nilA cUn cConvX cConvB cConv bytesOf rowB cMake cSlice slA idxA cFA cF cIA cIX cIS cI cExt cLen cApp cMM cFun cCall lenA lenM isNilM nilM cNilM cMakeM hintB cMapK cLook foundR lookR cUpd putM cDel delM findA isKeyB Instr.sameNow AS.entry AS.bound AS.callee sc1 sc2 ixOk ldA AV.flat AV.cell AV.cells Value.oneCell' fillA spl chunk zeros AS.parts AS.rows AS.shut AS.shut1 AS.shut2 AS.shutL AS.shutM AV.ids idsL idsLL eqAll bndA AV.scalar AV.scalar1 AV.isV Ef.app Ef.pk ptOf pntO wrO wr
attribute [-simp] List.getD_eq_getElem?_getD
set_option maxRecDepth 100000
attribute [local simp] lk_st
@[simp ↓ high] theorem d_ids_u8 (xs : List Int) : idsLL (xs.map fun x => [AV.v (.int .u8 x)]) = [] := ids_bytes xs
@[simp ↓ high] theorem d_ren_u8 (ρ : Nat → Nat) (xs : List Int) : renLL ρ (xs.map fun x => [AV.v (.int .u8 x)]) = xs.map fun x => [AV.v (.int .u8 x)] := renLL_pure ρ _ (ids_bytes xs)
def u8O (ks : List Int) : AObj := ⟨5, 1, ks.map fun x => [.v (.int .u8 x)]⟩
def OutC (c m : Nat) (nm : Nat → Nat) (n k : Nat) : Prop := k ≠ c ∧ k ≠ m ∧ ∀ t, t ≤ n → k ≠ nm t
theorem put_no {O : List (Nat × AObj)} {I : List Nat} {c m kk : Nat} {nm : Nat → Nat} {most v : Int} {es : List (List Int × Int)} {ks : List Int} (h : CacheAt O I c m nm most es) (hl : ks.length ≤ 1073741824) (hs : most < (ks.length : Int) + 16) :
    ProcB Tryd.prog TT Go.Proofs.Tryd.f27 [.ptr c 0 0, .ref kk 0 ks.length, .v (.int .i64 v)] O I (fun av O' I' => av = .v (.int .i64 2) ∧ O' = O ∧ I' = I) := by
  have hc := h.hc
  unfold csO at hc
  have hw1 : IntKind.i64.wrap ((ks.length : Int) + 16) = (ks.length : Int) + 16 := i64w (by omega) (by omega)
  clear h
  refine ⟨_, rfl, fun B hI0 hro => ?_⟩
  rw [Tryd.ntmps27, Tryd.results27]
  simp only [enumA]
  refine amStr (h := ?_)
  refine amReg PTc_ok (h := ?_)
  refine amStr (h := ?_)
  refine amReg PTc_ok (h := ?_)
  refine amStr (h := ?_)
  refine amReg PTc_ok (h := ?_)
  refine amStr (h := ?_)
  refine amReg PTc_ok (h := ?_)
  refine amStr (h := ?_)
  refine amReg PTc_ok (h := ?_)
  refine amStr (h := ?_)
  refine ⟨.inr rfl, _, rfl, rfl, ?_, ?_⟩ <;> simp [*]
set_option maxHeartbeats 4000000 in
theorem put_yes {O : List (Nat × AObj)} {I : List Nat} {c m kk x : Nat} {nm : Nat → Nat} {most v : Int} {es : List (List Int × Int)} {ks : List Int} (h : CacheAt O I c m nm most es) (hkk : lk O kk = some (u8O ks)) (hko : OutC c m nm es.length kk) (hkI : kk ∈ I) (hkb : okB ks = true) (hs : (ks.length : Int) + 16 ≤ most) (hx : x ∉ I) :
    ProcB Tryd.prog TT Go.Proofs.Tryd.f27 [.ptr c 0 0, .ref kk 0 ks.length, .v (.int .i64 v)] O I (fun av O' I' => av = .v (.int .i64 0) ∧ I' = x :: I ∧ ∃ nm', CacheAt O' (x :: I) c m nm' most (dropZ (most.toNat - (ks.length + 16)) (es.filter fun x => decide (x.1 ≠ ks)) ++ [(ks, v)]) ∧ (∀ j, j ≤ (dropZ (most.toNat - (ks.length + 16)) (es.filter fun x => decide (x.1 ≠ ks)) ++ [(ks, v)]).length → nm' j = x ∨ ∃ t, t ≤ es.length ∧ nm' j = nm t) ∧ ∀ k, OutC c m nm es.length k → k ≠ x → lk O' k = lk O k) := by
  have hc := h.hc
  have hm := h.hm
  have hbig := h.big
  have hroom := h.room
  have hfd := find_es hkb es nm 0 h.ok
  have hKs := h.keys
  unfold csO at hc
  unfold mpO at hm
  unfold u8O at hkk
  have hbo := bytesOf_map ks
  have hw1 : IntKind.i64.wrap ((ks.length : Int) + 16) = (ks.length : Int) + 16 := i64w (by omega) (by omega)
  obtain ⟨S, hS⟩ : ∃ S, most.toNat - (ks.length + 16) = S := ⟨_, rfl⟩
  have hSm : (S : Int) = most - ((ks.length : Int) + 16) := by omega
  obtain ⟨es1, hes1⟩ : ∃ es1, es.filter (fun x => decide (x.1 ≠ ks)) = es1 := ⟨_, rfl⟩
  rw [hS, hes1]
  have hne1 : ∀ a ∈ es1, a.1 ≠ ks := fun a ha => by rw [← hes1] at ha; exact of_decide_eq_true (List.mem_filter.1 ha).2
  have HC := Lib.hid h
  have HES := Lib.hid hes1
  have HNE := Lib.hid hne1
  have HKO := Lib.hid hko
  have HKS := Lib.hid hKs
  obtain ⟨M, hM⟩ : ∃ M, mpR nm es = M := ⟨_, rfl⟩
  rw [hM] at hm hfd
  have HM := Lib.hid hM
  have hlt : ¬ (most < (ks.length : Int) + 16) := by omega
  clear h hes1 hne1 hko hKs hM hS
  refine ⟨_, rfl, fun B hI0 hro => ?_⟩
  rw [Tryd.ntmps27, Tryd.results27]
  simp only [enumA]
  refine amStr (h := ?_)
  refine amReg PTc_ok (h := ?_)
  refine amStr (h := ?_)
  refine amReg PTc_ok (h := ?_)
  refine amStr (h := ?_)
  refine amReg PTc_ok (h := ?_)
  refine amStr (h := ?_)
  refine amReg PTc_ok (h := ?_)
  refine k_seq ?_
  refine s_cond_f (by simp [*]) ?_
  refine sp_skip ?_
  refine k_seq ?_
  refine s_seq ?_
  refine sp_mono (Q' := fun e τ => e = .normal ∧ ∃ O1 nm1, LpI O I c m nm most es.length S es1 O1 nm1 es1 ∧ SubS τ ⟨93, [(0, .ptr c 0 0), (1, .ref kk 0 ks.length), (2, .v (.int .i64 v)), (6, .v (.int .i64 0)), (7, .v (.int .i64 ((ks.length : Int) + 16)))], O1, I⟩) ?_ ?_
  · cases hat : atZ es ks with
    | none =>
      rw [hat] at hfd
      have hfd2 : findA .string (.string (strOfNums ks)) M 0 = some none := hfd
      have he1 : es1 = es := by rw [← HES.out, atZ_none hat]
      clear hfd
      refine amStr (h := ?_)
      refine amDrw PTc_ok (h := ?_)
      refine amStr (h := ?_)
      refine amReg PTc_ok (h := ?_)
      refine amStr (h := ?_)
      refine ⟨rfl, O, nm, ?_, SubS.of rfl (by simp) rfl rfl⟩
      rw [he1]
      exact ⟨HC.out, rfl, List.suffix_refl _, fun j hj => ⟨j, hj, rfl⟩, fun k _ _ _ => rfl⟩
    | some j =>
      rw [hat] at hfd
      have hfd2 : findA .string (.string (strOfNums ks)) M 0 = some (some j) := hfd
      obtain ⟨hj, he1⟩ := atZ_some HKS.out hat
      rw [HES.out] at he1
      have hrow : M.getD j [] = [AV.v (.string (strOfNums (es.getD j ([], 0)).1)), .ptr (nm (j + 1)) 0 0] := by rw [← HM.out]; exact mpR_get hj
      generalize AV.v (.string (strOfNums (es.getD j ([], 0)).1)) = key at hrow
      have HJ := Lib.hid hj
      have HE1 := Lib.hid he1
      clear hfd hat hj he1
      refine amStr (h := ?_)
      refine amDrw PTc_ok (h := ?_)
      refine amStr (h := ?_)
      refine amReg PTc_ok (h := ?_)
      refine amStr (h := ?_)
      refine s_regionL ?_
      ((iterate 2 (((with_reducible refine spl_step TT_ok PTc_ok (id := 0) (σ' := ?_) ?_ ?_); rotate_left; (focus (simp [*]; rfl))))))
      refine spl_procB TT_ok rfl rfl rfl (by kernel_rfl) Tryd.func45 (avs := [.ptr c 0 0, .ptr (nm (j + 1)) 0 0]) (cs := []) rfl rfl (by simp [Tryd.ntmps45]) (drop_proc HC.out (by omega) (by have := HJ.out; omega)) fun av O1 I1 hK => ?_
      obtain ⟨rfl, rfl, k1, k2⟩ := hK
      refine spl_nil ?_
      rw [Nat.add_sub_cancel] at k1
      refine ⟨rfl, O1, wo nm (j + 1), ?_, SubS.of rfl (by simp) rfl rfl⟩
      rw [HE1.out]
      refine ⟨k1, rfl, List.suffix_refl _, fun i hi => ?_, k2⟩
      have hlen : (es.eraseIdx j).length = es.length - 1 := List.length_eraseIdx_of_lt HJ.out
      obtain ⟨t, t1, _, t2⟩ := wo_mem (nm := nm) (i := j + 1) (n := es.length) (j := i) (by omega) HJ.out (by omega)
      exact ⟨t, t1, t2⟩
  rintro e τ ⟨rfl, O1, nm1, hLp, hSub⟩
  refine k_seq ?_
  refine s_subS hSub ?_
  clear hSub hfd
  refine amStr (h := ?_)
  refine s_loopS (J := fun y : {y : List (Nat × AObj) × (Nat → Nat) × List (List Int × Int) // Hid (LpI O I c m nm most es.length S es1 y.1 y.2.1 y.2.2)} => ⟨93, [(0, .ptr c 0 0), (1, .ref kk 0 ks.length), (2, .v (.int .i64 v)), (6, .v (.int .i64 0)), (7, .v (.int .i64 ((ks.length : Int) + 16)))], y.1.1, I⟩) (μ := fun y => y.1.2.2.length) ⟨(O1, nm1, es1), Lib.hid hLp⟩ ?_ (fun ⟨⟨O2, nm2, es2⟩, H2⟩ => ?_)
  · exact SubS.of rfl (by simp) rfl rfl
  dsimp only at H2
  dsimp only
  have hL2 := H2.out
  have hc2 := hL2.ca.hc
  have hm2 := hL2.ca.hm
  have hr2 := hL2.ca.room
  have ha0 := hL2.ca.ring.lk 0 (by omega)
  have hic := hL2.ca.ic
  have him := hL2.ca.im
  have hkk2 : lk O2 kk = some ⟨5, 1, ks.map fun x => [.v (.int .u8 x)]⟩ := by rw [hL2.fr kk HKO.out.1 HKO.out.2.1 HKO.out.2.2, hkk]
  have h00 : enZ es2 0 = ([], 0) := rfl
  rw [h00] at ha0
  unfold csO at hc2
  obtain ⟨U, hU⟩ : ∃ U : Int, (useZ es2 : Int) = U := ⟨_, rfl⟩
  have hU0 : 0 ≤ U := by omega
  rw [hU] at hc2 hr2
  have hw2 : IntKind.i64.wrap (U + ((ks.length : Int) + 16)) = U + ((ks.length : Int) + 16) := i64w (by omega) (by omega)
  have HU := Lib.hid hU
  clear hL2 hU hc hm hkk
  by_cases hgo : most < U + ((ks.length : Int) + 16)
  · -- one is dropped
    have hgt : useZ es2 > S := by have := HU.out; omega
    have hln : 1 ≤ es2.length := by
      cases es2 with
      | nil => have : useZ ([] : List (List Int × Int)) = 0 := rfl
               omega
      | cons a r => simp
    have hnx : nxl es2.length 0 = 1 := by unfold nxl; rw [if_neg (by omega)]
    rw [hnx] at ha0
    unfold lnkO at ha0
    refine amStr (h := ?_)
    refine amDrw PTc_ok (h := ?_)
    refine amStr (h := ?_)
    refine s_regionL ?_
    ((iterate 8 (((with_reducible refine spl_step TT_ok PTc_ok (id := 0) (σ' := ?_) ?_ ?_); rotate_left; (focus (simp [*]; rfl))))))
    refine spl_procB TT_ok rfl rfl rfl (by kernel_rfl) Tryd.func45 (avs := [.ptr c 0 0, .ptr (nm2 1) 0 0]) (cs := []) rfl rfl (by simp [Tryd.ntmps45]) (drop_proc H2.out.ca (by omega) hln) fun av O3 I3 hK => ?_
    obtain ⟨rfl, hI3, k1, k2⟩ := hK
    rw [hI3]
    refine spl_nil ?_
    refine amStr (h := ?_)
    have hlen : (es2.eraseIdx (1 - 1)).length = es2.length - 1 := List.length_eraseIdx_of_lt (by omega)
    refine ks_lp (⟨(O3, wo nm2 1, es2.eraseIdx (1 - 1)), Lib.hid (H2.out.drop hgt hln k1 k2)⟩ : {y : List (Nat × AObj) × (Nat → Nat) × List (List Int × Int) // Hid (LpI O I c m nm most es.length S es1 y.1 y.2.1 y.2.2)}) (by dsimp only; omega) ?_
    exact SubS.of rfl (by simp) rfl rfl
  · -- there is room
    have hle : useZ es2 ≤ S := by have := HU.out; omega
    have he2 : dropZ S es1 = es2 := by rw [← H2.out.dr]; exact drop_all hle
    rw [he2]
    have hra := H2.out.ca.ring
    have hca := H2.out.ca
    have hna := H2.out.na
    have hfr := H2.out.fr
    have hsf := H2.out.sf
    have hxn : ∀ j, j ≤ es2.length → nm2 j ≠ x := fun j hj e => hx (e ▸ hca.inn j hj)
    have hp0 : prv es2.length 0 = es2.length := by unfold prv; rw [if_pos rfl]
    rw [hp0] at ha0
    unfold lnkO at ha0
    have hxc : x ≠ c := fun e => hx (e ▸ hic)
    have hxm : x ≠ m := fun e => hx (e ▸ him)
    have hxk : x ≠ kk := fun e => hx (e ▸ hkI)
    have hx0 : x ≠ nm2 0 := fun e => hxn 0 (by omega) e.symm
    have hxc2 := hxc.symm
    have hxm2 := hxm.symm
    have hxk2 := hxk.symm
    have hx02 := hx0.symm
    have hgo2 : ¬ (most < U + ((ks.length : Int) + 16)) := hgo
    refine amStr (h := ?_)
    refine amDrw PTc_ok (h := ?_)
    refine amStr (h := ?_)
    refine ks_exit ?_
    refine amStr (h := ?_)
    refine s_regionL ?_
    ((iterate 5 (((with_reducible refine spl_step TT_ok PTc_ok (id := 0) (σ' := ?_) ?_ ?_); rotate_left; (focus (simp [*]; rfl))))))
    (((with_reducible refine spl_step TT_ok PTc_ok (id := x) (σ' := ?_) ?_ ?_); rotate_left; (focus (simp [*]; rfl))))
    ((iterate 1 (((with_reducible refine spl_step TT_ok PTc_ok (id := 0) (σ' := ?_) ?_ ?_); rotate_left; (focus (simp [*]; rfl))))))
    refine spl_nil ?_
    refine amStr (h := ?_)
    refine s_regionL ?_
    ((iterate 8 (((with_reducible refine spl_step TT_ok PTc_ok (id := 0) (σ' := ?_) ?_ ?_); rotate_left; (focus (simp [*]; rfl))))))
    refine spl_procB TT_ok rfl rfl rfl (by kernel_rfl) Tryd.func46 (avs := [.ptr (nm2 es2.length) 0 0, .ptr x 0 0]) (cs := []) rfl rfl (by simp [Tryd.ntmps46]) (join_proc (O := st O2 x (lnk0 (ks, v))) (I := x :: I) (n := es2.length) (nm := nm2) (en := enZ es2) (ex := (ks, v)) (hra.mono fun j hj => by rw [lk_st, if_neg (Ne.symm (hxn j hj))]) (by rw [lk_st, if_pos rfl]) hxn (fun j hj => List.mem_cons_of_mem _ (hca.inn j hj)) List.mem_cons_self) fun av O4 I4 hK => ?_
    obtain ⟨rfl, hI4, k1, k2⟩ := hK
    rw [hI4]
    refine spl_nil ?_
    have g1 : lk O4 c = some ⟨73, 4, [[.v (.int .i64 most), .v (.int .i64 U), .mp m, .ptr (nm2 0) 0 0]]⟩ := by
      rw [k2 c (fun t ht e => (hca.cn t ht).1 e.symm) hxc2]
      rw [lk_st, if_neg hxc, hc2]
    have g2 : lk O4 m = some (mpO nm2 es2) := by
      rw [k2 m (fun t ht e => (hca.cn t ht).2 e.symm) hxm2]
      rw [lk_st, if_neg hxm, hm2]
    have hkn : ∀ t, t ≤ es2.length → kk ≠ nm2 t := fun t ht e => by
      obtain ⟨u, u1, u2⟩ := hna t ht
      exact HKO.out.2.2 u u1 (e.trans u2)
    have g3 : lk O4 kk = some ⟨5, 1, ks.map fun x => [.v (.int .u8 x)]⟩ := by
      rw [k2 kk hkn hxk2]
      rw [lk_st, if_neg hxk, hkk2]
    have hne2 : ∀ a ∈ es2, a.1 ≠ ks := fun a ha => HNE.out a (hsf.subset ha)
    have hf2 := find_es hkb es2 nm2 0 hca.ok
    rw [atZ_no hne2] at hf2
    have hf3 : findA .string (.string (strOfNums ks)) (mpR nm2 es2) 0 = some none := hf2
    unfold mpO at g2
    obtain ⟨M2, hM2⟩ : ∃ M2, mpR nm2 es2 = M2 := ⟨_, rfl⟩
    rw [hM2] at g2 hf3
    have hcm : c ≠ m := hca.cm
    have hcm2 := hcm.symm
    have HM2 := Lib.hid hM2
    have HNE2 := Lib.hid hne2
    have K1 := Lib.hid k1
    have K2 := Lib.hid k2
    have HCA := Lib.hid hca
    have HNA := Lib.hid hna
    have HFR := Lib.hid hfr
    have HXN := Lib.hid hxn
    clear hf2 hM2 hne2 k1 k2 hca hna hfr hxn hkn ha0 hra hc2 hm2 hkk2 hsf
    refine amStr (h := ?_)
    refine amDrw PTc_ok (h := ?_)
    refine amStr (h := ?_)
    refine amReg PTc_ok (h := ?_)
    refine amStr (h := ?_)
    refine s_subS (τ := ⟨93, [], st (st O4 m ⟨70, 0, M2 ++ [[.v (.string (strOfNums ks)), .ptr x 0 0]]⟩) c (csO m (nm2 0) most (U + ((ks.length : Int) + 16))), x :: I⟩) ?_ ?_
    · refine SubS.of rfl (by simp) ?_ ?_
      · unfold csO
        simp [*]
      · simp [*]
    refine amReg PTc_ok (h := ?_)
    refine amStr (h := ?_)
    have hent : (entZ (ks, v) : Int) = (ks.length : Int) + 16 := by unfold entZ; simp
    have hlen : (es2 ++ [(ks, v)]).length = es2.length + 1 := by simp
    refine ⟨.inr rfl, _, rfl, rfl, rfl, wi nm2 es2.length x, cache_more HCA.out hx hkb HNE2.out (by rw [hent, HU.out]; omega) K1.out (by rw [HM2.out, HU.out, hent]), fun j hj => ?_, fun k hk hkx => ?_⟩
    · unfold wi
      split
      · exact .inl rfl
      · exact .inr (HNA.out j (by omega))
    · rw [lk_st, if_neg (Ne.symm hk.1), lk_st, if_neg (Ne.symm hk.2.1), K2.out k (fun t ht e => ?_) hkx]
      · rw [lk_st, if_neg (Ne.symm hkx), HFR.out k hk.1 hk.2.1 hk.2.2]
      · obtain ⟨u, u1, u2⟩ := HNA.out t ht
        exact hk.2.2 u u1 (e.trans u2)
end Go.Proofs.YtafikekndefjcaaDoor
