/- The law TheorySame, by the abstract machine; no condition. -/
import Derived.Test.YtkollnaojpppcaaLa1
import Derived.Test.YtkollnaojpppcaaPl2
import Derived.Test.YtkollnaojpppcaaRows
namespace Go.Proofs.Ytkollnaojpppcaa
set_option linter.unusedVariables false
set_option linter.unusedSimpArgs false
set_option linter.unusedSectionVars false
open Go.ChangeShapes Go.WideShapes Go.ChangeAt Go.RowKit
attribute [local simp] List.getD_cons_zero List.getD_cons_succ List.getD_nil undef runL runE effA stepA dstOk wantA core lk st dl AS.ev AS.evs AS.put AS.upd updO updI nxt cPick cAlloc cBox cBuild cBuildS cLoad cStore cNil plainOf cBin cNilS isNilS nilA cUn cConvX cConvB cConv bytesOf rowB cMake cSlice slA idxA cFA cF cIA cIX cIS cI cExt cLen cApp cMM cFun cCall lenA lenM isNilM nilM cNilM cMakeM hintB cMapK cLook foundR lookR cUpd putM cDel delM findA isKeyB Instr.sameNow AS.entry AS.bound AS.callee sc1 sc2 ixOk ldA AV.flat AV.cell AV.cells Value.oneCell' fillA spl chunk zeros AS.parts AS.rows AS.shut AS.shut1 AS.shut2 AS.shutL AS.shutM AV.ids idsL idsLL eqAll bndA AV.scalar AV.scalar1 AV.isV Ef.app fpA light Ef.pk ptOf pntO wrO wr
set_option maxRecDepth 100000
theorem lightB_len {L : List (List Int)} (h : lightB L = true) : L.length ≤ 60 := by
  simp only [lightB, Bool.and_eq_true, decide_eq_true_eq] at h; exact h.2
theorem shl_ok {q : Int} (q0 : 0 ≤ q) (q1 : q ≤ 8) : ∃ M : Nat, IntKind.i64.wrap (2 ^ min q.toNat IntKind.i64.bits) = (M : Int) ∧ 1 ≤ M ∧ M ≤ 256 := by
  obtain ⟨n, rfl⟩ := Int.eq_ofNat_of_zero_le q0
  have hn : n ≤ 8 := by omega
  have e1 : IntKind.i64.bits = 64 := rfl
  have e3 : min (n : Int).toNat 64 = n := by simp; omega
  have e4 : (2 : Nat) ^ n ≤ 2 ^ 8 := Nat.pow_le_pow_right (by omega) hn
  have e5 : 0 < (2 : Nat) ^ n := Nat.two_pow_pos n
  have e6 : ((2 ^ n : Nat) : Int) = (2 : Int) ^ n := by norm_cast
  refine ⟨2 ^ n, ?_, by omega, by omega⟩
  rw [e1, e3, e6]
  exact i64w (by omega) (by omega)
theorem theorySame_p (N : Int) (L : List (List Int)) (n : Int) (hN : okI N = true) (hL : okLens L = true) (n0 : 0 ≤ n) (n1 : n ≤ 255) : FnPure Try.prog 7 [aTh N L, .v (.int .u8 n)] (.v (.bool true)) := by
  unfold aTh
  by_cases hl : lightB L = true
  · have hr := light_rows hL hl
    have hl60 := lightB_len hl
    have hmod : n.tmod 9 = n % 9 := Int.tmod_eq_emod_of_nonneg n0
    have q0 : 0 ≤ n % 9 := by omega
    have q1 : n % 9 ≤ 8 := by omega
    generalize n % 9 = q at hmod q0 q1
    have hw1 : IntKind.u8.wrap q = q := by rw [show IntKind.u8.wrap q = q % 256 from rfl]; omega
    have hw2 : IntKind.i64.wrap q = q := i64w (by omega) (by omega)
    have hw3 : IntKind.u64.wrap q = q := u64w (by omega) (by omega)
    have hq : okI q = true := okI_iff.2 ⟨by omega, by omega⟩
    have hfk : fewOk q L = true := fewOk_iff.2 ⟨hl60, q0, by omega⟩
    have hz := fewT_check (n := q) (L := L) q0 (by omega) (by omega)
    obtain ⟨T, hT⟩ : ∃ T, fewT q L = T := ⟨_, rfl⟩
    rw [hT] at hz
    have hfe : aTh q T = .agg [.v (.int .i64 q), aRows T] := rfl
    have hTr := okRows_check hz
    have hUz := normL_check hz
    have hUr := okRows_check hUz
    have hna : normA q T = .tup [.agg [.v (.int .i64 q), aRows (normL T)], .v (.int .i64 0)] := by unfold normA; rw [if_pos hz]; rfl
    have hnb : normA q (normL T) = .tup [.agg [.v (.int .i64 q), aRows (normL T)], .v (.int .i64 0)] := by unfold normA; rw [if_pos hUz, normL_idem hz]; rfl
    have hUl := normL_len T
    have hev := fun s => normL_eval (N := q) hz s
    generalize normL T = U at hUz hUr hna hnb hUl hev
    have hsm : smB q U q U = true := by simp [smB]
    refine fn_sp TT_ok Try.func7 (c := _) rfl (by simp [Try.ntmps7]) (fun B hI0 hro => ?_)
    rw [Try.ntmps7]
    simp only [enumA]
    repeat (first
     | with_reducible first | refine s_seq ?_ | refine k_seq ?_ | refine k_seq_ret ?_ | refine k_seq_exit ?_ | refine k_blk ?_ | refine k_blk_ret ?_ | refine k_blk_exit ?_ | refine k_lp_ret ?_ | refine k_lp_exit ?_ | refine ki_lp_ret ?_ | refine ki_lp_exit ?_ | refine s_block ?_ | refine sp_skip ?_ | refine sp_ret ?_ | refine sp_exit ?_
     | ((with_reducible refine k_blk_out ?_ ?_); (focus decide))
     | ((with_reducible refine s_cond_t ?_ ?_); (focus (simp [-List.getD_eq_getElem?_getD, lk, AS.ev, *]; done)))
     | ((with_reducible refine s_cond_f ?_ ?_); (focus (simp [-List.getD_eq_getElem?_getD, lk, AS.ev, *]; done)))
     | (focus ((with_reducible refine s_region2 (q := ?_) (σ' := ?_) TT_ok PT50_ok ?_ ?_ ?_); rotate_left 2; (focus (first | (simp [nxt]; exact Eq.refl _) | exact Eq.refl _)); (focus ((repeat (((with_reducible refine runL_cons (σ1 := ?_) ?_ ?_); rotate_left; (focus (simp [-List.getD_eq_getElem?_getD, *]; rfl))))); (exact runL_nil)))))
     | (focus ((with_reducible refine s_draw2 (q := ?_) (es := ?_) (σ' := ?_) prog_mixed TT_ok PT50_ok ?_ ?_ ?_ ?_); rotate_left 3; (focus (first | (simp [nxt]; exact Eq.refl _) | exact Eq.refl _)); (focus ((repeat (((with_reducible refine runE_cons (e := ?_) (σ1 := ?_) (es := ?_) ?_ ?_ ?_); rotate_left 3; (focus (simp [-List.getD_eq_getElem?_getD, *]; exact Eq.refl _)); (focus (simp [-List.getD_eq_getElem?_getD, Ef.app, Ef.pk, pntO, wrO, wr, lk, AS.upd, updO, updI, AS.put, st, dl]; exact Eq.refl _))))); (exact runE_nil))); (focus (first | kernel_rfl | decide)))))
    have hneg : ¬ q < 0 := by omega
    obtain ⟨M, hM, hM1, hM2⟩ := shl_ok (q := q) q0 q1
    refine s_loop (J := fun i : {k : Nat // k ≤ M} => ⟨81, [(2, .ptr 0 0 0), (5, .ptr 6 0 0), (9, .v (.int .i64 (i.1 : Int)))], [(0, ⟨24, 2, [[.v (.int .i64 q), aRows T]]⟩), (6, ⟨24, 2, [[.v (.int .i64 q), aRows U]]⟩)], [6, 0]⟩) (μ := fun i => M - i.1) ⟨0, Nat.zero_le _⟩ ?_ (fun ⟨k, hk⟩ => ?_)
    · (refine weak_id rfl ?_ ?_ <;> ((try simp only [List.mem_cons, List.not_mem_nil, or_false, forall_eq_or_imp, forall_eq]); (try simp (disch := omega) [-List.getD_eq_getElem?_getD, lk, AV.ids, idsL, idsLL, i64w, *])))
    repeat (first
     | with_reducible first | refine s_seq ?_ | refine k_seq ?_ | refine k_seq_ret ?_ | refine k_seq_exit ?_ | refine k_blk ?_ | refine k_blk_ret ?_ | refine k_blk_exit ?_ | refine k_lp_ret ?_ | refine k_lp_exit ?_ | refine ki_lp_ret ?_ | refine ki_lp_exit ?_ | refine s_block ?_ | refine sp_skip ?_ | refine sp_ret ?_ | refine sp_exit ?_
     | ((with_reducible refine k_blk_out ?_ ?_); (focus decide))
     | ((with_reducible refine s_cond_t ?_ ?_); (focus (simp [-List.getD_eq_getElem?_getD, lk, AS.ev, *]; done)))
     | ((with_reducible refine s_cond_f ?_ ?_); (focus (simp [-List.getD_eq_getElem?_getD, lk, AS.ev, *]; done)))
     | (focus ((with_reducible refine s_region2 (q := ?_) (σ' := ?_) TT_ok PT50_ok ?_ ?_ ?_); rotate_left 2; (focus (first | (simp [nxt]; exact Eq.refl _) | exact Eq.refl _)); (focus ((repeat (((with_reducible refine runL_cons (σ1 := ?_) ?_ ?_); rotate_left; (focus (simp [-List.getD_eq_getElem?_getD, *]; rfl))))); (exact runL_nil)))))
     | (focus ((with_reducible refine s_draw2 (q := ?_) (es := ?_) (σ' := ?_) prog_mixed TT_ok PT50_ok ?_ ?_ ?_ ?_); rotate_left 3; (focus (first | (simp [nxt]; exact Eq.refl _) | exact Eq.refl _)); (focus ((repeat (((with_reducible refine runE_cons (e := ?_) (σ1 := ?_) (es := ?_) ?_ ?_ ?_); rotate_left 3; (focus (simp [-List.getD_eq_getElem?_getD, *]; exact Eq.refl _)); (focus (simp [-List.getD_eq_getElem?_getD, Ef.app, Ef.pk, pntO, wrO, wr, lk, AS.upd, updO, updI, AS.put, st, dl]; exact Eq.refl _))))); (exact runE_nil))); (focus (first | kernel_rfl | decide)))))
    (focus ((with_reducible refine sp_cond (b := ?_) ?_ (fun hc => ?_) (fun hc => ?_)); rotate_left; (focus (first | rfl | (simp [lk, AS.ev]; rfl))); all_goals (try simp [-List.getD_eq_getElem?_getD] at hc)))
    · have hkk := hc
      clear hc
      have hak : asgOk k q = true := asgOk_iff.2 ⟨by omega, by omega, by omega, by omega⟩
      have hki : okI (k : Int) = true := okI_iff.2 ⟨by omega, by omega⟩
      repeat (first
       | with_reducible first | refine s_seq ?_ | refine k_seq ?_ | refine k_seq_ret ?_ | refine k_seq_exit ?_ | refine k_blk ?_ | refine k_blk_ret ?_ | refine k_blk_exit ?_ | refine k_lp_ret ?_ | refine k_lp_exit ?_ | refine ki_lp_ret ?_ | refine ki_lp_exit ?_ | refine s_block ?_ | refine sp_skip ?_ | refine sp_ret ?_ | refine sp_exit ?_
       | ((with_reducible refine k_blk_out ?_ ?_); (focus decide))
       | ((with_reducible refine s_cond_t ?_ ?_); (focus (simp [-List.getD_eq_getElem?_getD, lk, AS.ev, *]; done)))
       | ((with_reducible refine s_cond_f ?_ ?_); (focus (simp [-List.getD_eq_getElem?_getD, lk, AS.ev, *]; done)))
       | (focus ((with_reducible refine s_region2 (q := ?_) (σ' := ?_) TT_ok PT50_ok ?_ ?_ ?_); rotate_left 2; (focus (first | (simp [nxt]; exact Eq.refl _) | exact Eq.refl _)); (focus ((repeat (((with_reducible refine runL_cons (σ1 := ?_) ?_ ?_); rotate_left; (focus (simp [-List.getD_eq_getElem?_getD, *]; rfl))))); (exact runL_nil)))))
       | (focus ((with_reducible refine s_draw2 (q := ?_) (es := ?_) (σ' := ?_) prog_mixed TT_ok PT50_ok ?_ ?_ ?_ ?_); rotate_left 3; (focus (first | (simp [nxt]; exact Eq.refl _) | exact Eq.refl _)); (focus ((repeat (((with_reducible refine runE_cons (e := ?_) (σ1 := ?_) (es := ?_) ?_ ?_ ?_); rotate_left 3; (focus (simp [-List.getD_eq_getElem?_getD, *]; exact Eq.refl _)); (focus (simp [-List.getD_eq_getElem?_getD, Ef.app, Ef.pk, pntO, wrO, wr, lk, AS.upd, updO, updI, AS.put, st, dl]; exact Eq.refl _))))); (exact runE_nil))); (focus (first | kernel_rfl | decide)))))
      refine k_lp (⟨k + 1, by omega⟩ : {k : Nat // k ≤ M}) (by dsimp only; omega) ?_
      (refine weak_id rfl ?_ ?_ <;> ((try simp only [List.mem_cons, List.not_mem_nil, or_false, forall_eq_or_imp, forall_eq]); (try simp (disch := omega) [-List.getD_eq_getElem?_getD, lk, AV.ids, idsL, idsLL, i64w, *])))
    · repeat (first
       | with_reducible first | refine s_seq ?_ | refine k_seq ?_ | refine k_seq_ret ?_ | refine k_seq_exit ?_ | refine k_blk ?_ | refine k_blk_ret ?_ | refine k_blk_exit ?_ | refine k_lp_ret ?_ | refine k_lp_exit ?_ | refine ki_lp_ret ?_ | refine ki_lp_exit ?_ | refine s_block ?_ | refine sp_skip ?_ | refine sp_ret ?_ | refine sp_exit ?_
       | ((with_reducible refine k_blk_out ?_ ?_); (focus decide))
       | ((with_reducible refine s_cond_t ?_ ?_); (focus (simp [-List.getD_eq_getElem?_getD, lk, AS.ev, *]; done)))
       | ((with_reducible refine s_cond_f ?_ ?_); (focus (simp [-List.getD_eq_getElem?_getD, lk, AS.ev, *]; done)))
       | (focus ((with_reducible refine s_region2 (q := ?_) (σ' := ?_) TT_ok PT50_ok ?_ ?_ ?_); rotate_left 2; (focus (first | (simp [nxt]; exact Eq.refl _) | exact Eq.refl _)); (focus ((repeat (((with_reducible refine runL_cons (σ1 := ?_) ?_ ?_); rotate_left; (focus (simp [-List.getD_eq_getElem?_getD, *]; rfl))))); (exact runL_nil)))))
       | (focus ((with_reducible refine s_draw2 (q := ?_) (es := ?_) (σ' := ?_) prog_mixed TT_ok PT50_ok ?_ ?_ ?_ ?_); rotate_left 3; (focus (first | (simp [nxt]; exact Eq.refl _) | exact Eq.refl _)); (focus ((repeat (((with_reducible refine runE_cons (e := ?_) (σ1 := ?_) (es := ?_) ?_ ?_ ?_); rotate_left 3; (focus (simp [-List.getD_eq_getElem?_getD, *]; exact Eq.refl _)); (focus (simp [-List.getD_eq_getElem?_getD, Ef.app, Ef.pk, pntO, wrO, wr, lk, AS.upd, updO, updI, AS.put, st, dl]; exact Eq.refl _))))); (exact runE_nil))); (focus (first | kernel_rfl | decide)))))
      ((refine post_ret (av := ?_) (by first | exact .inl rfl | exact .inr rfl) (show (Try.f7).results.toList = _ from by rw [Try.results7]) ?_ ?_); rotate_left; (focus (simp [-List.getD_eq_getElem?_getD, retA, retL, ret1, lk, st, ldA, AV.cell]; rfl)); (try simp [-List.getD_eq_getElem?_getD, *]))
  · refine fn_sp TT_ok Try.func7 (c := _) rfl (by simp [Try.ntmps7]) (fun B hI0 hro => ?_)
    rw [Try.ntmps7]
    simp only [enumA]
    repeat (first
     | with_reducible first | refine s_seq ?_ | refine k_seq ?_ | refine k_seq_ret ?_ | refine k_seq_exit ?_ | refine k_blk ?_ | refine k_blk_ret ?_ | refine k_blk_exit ?_ | refine k_lp_ret ?_ | refine k_lp_exit ?_ | refine ki_lp_ret ?_ | refine ki_lp_exit ?_ | refine s_block ?_ | refine sp_skip ?_ | refine sp_ret ?_ | refine sp_exit ?_
     | ((with_reducible refine k_blk_out ?_ ?_); (focus decide))
     | ((with_reducible refine s_cond_t ?_ ?_); (focus (simp [-List.getD_eq_getElem?_getD, lk, AS.ev, *]; done)))
     | ((with_reducible refine s_cond_f ?_ ?_); (focus (simp [-List.getD_eq_getElem?_getD, lk, AS.ev, *]; done)))
     | (focus ((with_reducible refine s_region2 (q := ?_) (σ' := ?_) TT_ok PT50_ok ?_ ?_ ?_); rotate_left 2; (focus (first | (simp [nxt]; exact Eq.refl _) | exact Eq.refl _)); (focus ((repeat (((with_reducible refine runL_cons (σ1 := ?_) ?_ ?_); rotate_left; (focus (simp [-List.getD_eq_getElem?_getD, *]; rfl))))); (exact runL_nil)))))
     | (focus ((with_reducible refine s_draw2 (q := ?_) (es := ?_) (σ' := ?_) prog_mixed TT_ok PT50_ok ?_ ?_ ?_ ?_); rotate_left 3; (focus (first | (simp [nxt]; exact Eq.refl _) | exact Eq.refl _)); (focus ((repeat (((with_reducible refine runE_cons (e := ?_) (σ1 := ?_) (es := ?_) ?_ ?_ ?_); rotate_left 3; (focus (simp [-List.getD_eq_getElem?_getD, *]; exact Eq.refl _)); (focus (simp [-List.getD_eq_getElem?_getD, Ef.app, Ef.pk, pntO, wrO, wr, lk, AS.upd, updO, updI, AS.put, st, dl]; exact Eq.refl _))))); (exact runE_nil))); (focus (first | kernel_rfl | decide)))))
    ((refine post_ret (av := ?_) (by first | exact .inl rfl | exact .inr rfl) (show (Try.f7).results.toList = _ from by rw [Try.results7]) ?_ ?_); rotate_left; (focus (simp [-List.getD_eq_getElem?_getD, retA, retL, ret1, lk, st, ldA, AV.cell]; rfl)); (try simp [-List.getD_eq_getElem?_getD, *]))
namespace theorySame
set_option maxRecDepth 100000 in
theorem lifted (os : Os) (started : os.Started) (H : Type) (enc : TypeId × Value → H) :
    ReturnsInHanded {} Try.checked os 7 .any (Rows.theorySameSpec.pre6 enc Try.prog Go.Proofs.Try.f7 Rows.theorySameRow.domain false) (Rows.theorySameSpec.post enc Try.prog Go.Proofs.Try.f7 false true false false) := by
  refine returnsInHanded_of_change (C := Try.checked) (by kernel_rfl) started (by kernel_rfl) Try.func7
    (ChangeSpec.witness6 (enc := enc) (C := Try.checked) false ⟨#[], #[.agg #[.int .i64 0, .slice none 0 0], .int .u8 0], []⟩ 8 (by kernel_rfl) (by kernel_rfl) (by kernel_rfl) (by kernel_rfl)) ?_
  intro W base args ds gs before hval0 hW hcnd _
  have hval : ∀ (j : Nat) t v, (Go.Proofs.Try.f7).params[j]? = some t → args[j]? = some v → Value.okWide Try.prog W .any base t v := hval0
  have hW2 := hW
  obtain ⟨p, q, hA0, hV, _, _, _⟩ := hW
  have hA : DataW.TrodAll enc Try.prog W 0 (fun _ => true) true (Go.Proofs.Try.f7).params.toList args.toList ds p := hA0
  rw [Try.params7] at hA hval
  clear hA0 hval0 hcnd
  obtain ⟨rfl, _⟩ := trodVars_none hV
  obtain ⟨v0, vs0, d0, ds0, p0, q0, hargs, rfl, _, h0, r0⟩ := trodAll_cons hA
  obtain ⟨v1, vs1, d1, ds1, p1, q1, rfl, rfl, _, h1, r1⟩ := trodAll_cons r0
  obtain ⟨rfl, rfl, _⟩ := trodAll_nil r1
  obtain rfl : args = #[v0, v1] := by cases args; simp_all
  obtain ⟨N, L, ra0, oN0, oL0⟩ := arg_th (hval 0 _ v0 rfl rfl) h0
  obtain ⟨n, ra1, l1, u1⟩ := arg_u8 (hval 1 _ v1 rfl rfl) h1
  refine law_of_pure (avs := [.agg [.v (.int .i64 N), aRows L], .v (.int .u8 n)]) (by kernel_rfl) hW2 rfl (rec_ok (by kernel_rfl)) (tb := 4) rfl Try.underlying4 rfl rfl rfl rfl (fun i hi => ?_) (theorySame_p N L n oN0 oL0 l1 u1)
  match i, hi with
  | 0, _ => exact ra0
  | 1, _ => exact ra1
theorem proved : Rows.TheorySameSaid :=
  OpenClaim.holds_of_wide 7 Go.Proofs.Try.f7 rfl rfl rfl rfl rfl rfl rfl ⟨rfl, rfl, rfl, rfl, rfl⟩ rfl rfl rfl rfl rfl (by kernel_rfl) Try.func7 (by kernel_rfl)
    (of_decide_eq_true (by kernel_rfl)) (by unfold Func.isWrapper; first | (rw [if_pos (by decide +kernel)]; kernel_rfl) | (rw [if_neg (by decide +kernel)]; exact ⟨rfl, rfl⟩))
    (fun os started H enc _ => lifted os started H enc)
end theorySame
end Go.Proofs.Ytkollnaojpppcaa
