/- The reference's Put; no condition. -/
import Derived.Test.YtafikekndefjcaaDoorRu17
import Derived.Test.YtafikekndefjcaaDoorWa
import Derived.Test.YtafikekndefjcaaDoorAm35
namespace Go.Proofs.YtafikekndefjcaaDoor
set_option linter.unusedVariables false
set_option linter.unusedSimpArgs false
set_option linter.unusedSectionVars false
open Go.RowKit
attribute [local simp] List.getD_cons_zero List.getD_cons_succ List.getD_nil undef gvars runL runE effA stepA dstOk wantA core lk st dl AS.ev AS.evs AS.put AS.upd updO updI nxt cPick cAlloc cBox cBuild cBuildS cLoad cStore cNil plainOf cBin cNilS isNilS nilA cUn cConvX cConvB cConv bytesOf rowB cMake cSlice slA idxA cFA cF cIA cIX cIS cI cExt cLen cApp cMM cFun cCall lenA lenM isNilM nilM cNilM cMakeM hintB cMapK cLook foundR lookR cUpd putM cDel delM findA isKeyB Instr.sameNow AS.entry AS.bound AS.callee sc1 sc2 ixOk ldA AV.flat AV.cell AV.cells Value.oneCell' fillA spl chunk zeros AS.parts AS.rows AS.shut AS.shut1 AS.shut2 AS.shutL AS.shutM AV.ids idsL idsLL eqAll bndA AV.scalar AV.scalar1 AV.isV Ef.app Ef.pk ptOf pntO wrO wr
attribute [-simp] List.getD_eq_getElem?_getD
set_option maxRecDepth 100000
attribute [local simp] lk_st lk_dl
theorem s_cut {P : Program} {B : Base} {x y : Code} {σ : AS} {Q : Exit → AS → Prop} (M : AS → Prop) (h : SP P B x σ (fun e τ => e = .normal ∧ M τ)) (k : ∀ τ, M τ → SP P B y τ Q) : SP P B (.seq x y) σ Q :=
  s_seq (sp_mono h fun e τ ⟨he, hm⟩ => by subst he; exact k τ hm)
theorem use_len (es : List (List Int × Int)) : 16 * es.length ≤ useZ es := by
  induction es with
  | nil => exact Nat.zero_le _
  | cons e r ih => rw [use_cons, List.length_cons]; unfold entZ; omega
theorem use_filter (p : List Int × Int → Bool) (es : List (List Int × Int)) : useZ (es.filter p) ≤ useZ es := by
  induction es with
  | nil => exact Nat.le_refl _
  | cons e r ih =>
    rw [List.filter_cons]
    split
    · rw [use_cons, use_cons]; omega
    · rw [use_cons]; omega
theorem rput_no {O : List (Nat × AObj)} {I : List Nat} {rc : Nat} {L : AV} {most v : Int} {es : List (List Int × Int)} {ks : List Int} (h : RefAt O I rc L most es) (hl : ks.length ≤ 1073741824) (hs : most < (ks.length : Int) + 16) :
    ProcB Tryd.prog TT Go.Proofs.Tryd.f28 [.ptr rc 0 0, .v (.string (strOfNums ks)), .v (.int .i64 v)] O I (fun av O' I' => av = .v (.int .i64 2) ∧ O' = O ∧ I' = I) := by
  have hc := h.hc
  unfold rcO at hc
  have hsz := str_size ks
  obtain ⟨S, hS⟩ : ∃ S, strOfNums ks = S := ⟨_, rfl⟩
  rw [hS] at hsz ⊢
  have hw1 : IntKind.i64.wrap ((ks.length : Int) + 16) = (ks.length : Int) + 16 := i64w (by omega) (by omega)
  refine ⟨_, rfl, fun B hI0 hro => ?_⟩
  rw [Tryd.ntmps28, Tryd.results28]
  simp only [enumA]
  refine amStr (h := ?_)
  refine amReg PTv_ok (h := ?_)
  refine amStr (h := ?_)
  refine amReg PTv_ok (h := ?_)
  refine amStr (h := ?_)
  refine amReg PTv_ok (h := ?_)
  refine amStr (h := ?_)
  exact ⟨.inr rfl, _, rfl, rfl, rfl, rfl⟩
def noK (ks : List Int) (es : List (List Int × Int)) : List (List Int × Int) := es.filter fun x => decide (x.1 ≠ ks)
@[local simp] theorem noK_nil (ks : List Int) : noK ks [] = [] := rfl
structure RlI (O : List (Nat × AObj)) (bd : Nat) (F : List (List Int × Int)) (O' : List (Nat × AObj)) (I' : List Nat) (id b' : Nat) : Prop where
  ob : lk O' id = some (elO F)
  lo : bd ≤ id
  ii : id ∈ I'
  keep : ∀ q, q < bd → lk O' q = lk O q
  big : ∀ q ∈ I', q < b'
theorem row_load (e : List Int × Int) : rE e = [.v (.string (strOfNums e.1)), .v (.int .i64 e.2)] := rfl
set_option maxHeartbeats 8000000 in
theorem rput_yes {O : List (Nat × AObj)} {I : List Nat} {rc bd : Nat} {L : AV} {most v : Int} {es : List (List Int × Int)} {ks : List Int} (h : RefAt O I rc L most es) (hbd : ∀ q ∈ I, q < bd) (hkb : okB ks = true) (hs : (ks.length : Int) + 16 ≤ most) (hm : most ≤ 1073741824) (hu : (useZ es : Int) ≤ most) :
    ProcB Tryd.prog TT Go.Proofs.Tryd.f28 [.ptr rc 0 0, .v (.string (strOfNums ks)), .v (.int .i64 v)] O I (fun av O' I' => av = .v (.int .i64 0) ∧ ∃ z n bd', bd ≤ z ∧ RefAt O' I' rc (.ref z 0 n) most (dropZ (most.toNat - (ks.length + 16)) (noK ks es) ++ [(ks, v)]) ∧ (∀ q ∈ I', q < bd') ∧ (∀ q ∈ I, q ∈ I') ∧ bd ≤ bd' ∧ ∀ q, q < bd → q ≠ rc → lk O' q = lk O q) := by
  have hc := h.hc
  unfold rcO at hc
  have hrb := hbd rc h.ic
  have hbI : bd ∉ I := fun e => by have := hbd bd e; omega
  have hsz := str_size ks
  have hn := use_len es
  obtain ⟨S, hS⟩ : ∃ S, strOfNums ks = S := ⟨_, rfl⟩
  rw [hS] at hsz ⊢
  have hw1 : IntKind.i64.wrap ((ks.length : Int) + 16) = (ks.length : Int) + 16 := i64w (by omega) (by omega)
  have hns : ¬ most < (ks.length : Int) + 16 := by omega
  refine ⟨_, rfl, fun B hI0 hro => ?_⟩
  rw [Tryd.ntmps28, Tryd.results28]
  simp only [enumA]
  refine amStr (h := ?_)
  refine amReg PTv_ok (h := ?_)
  refine amStr (h := ?_)
  refine amReg PTv_ok (h := ?_)
  refine amStr (h := ?_)
  refine amReg PTv_ok (h := ?_)
  refine k_seq ?_
  refine s_nil 7 bd 96 2 (by simp) hbI ?_
  refine s_cut (M := fun τ => ∃ O' I' id b', SubS τ ⟨68, [(0, .ptr rc 0 0), (1, .v (.string S)), (2, .v (.int .i64 v)), (7, .ref id 0 (noK ks es).length)], O', I'⟩ ∧ RlI O bd (noK ks es) O' I' id b' ∧ ∀ q ∈ I, q ∈ I') ?_ fun τ hM => ?_
  · have hR0 : RlI O bd [] ((bd, elO []) :: O) (bd :: I) bd (bd + 1) := ⟨by simp [lk], Nat.le_refl _, List.mem_cons_self, fun q hq => by simp only [lk]; rw [if_neg (by omega)], fun q hq => by
      rcases List.mem_cons.1 hq with rfl | hq
      · omega
      · have := hbd q hq; omega⟩
    have hmore : ∀ {F : List (List Int × Int)} {O' O2 : List (Nat × AObj)} {I' : List Nat} {id b' : Nat} {e : List Int × Int}, RlI O bd F O' I' id b' → (∀ q, q < b' → q ≠ id → lk O2 q = lk O' q) → lk O2 (b' + 1) = some (elO (F ++ [e])) → RlI O bd (F ++ [e]) O2 ((b' + 1) :: b' :: I') (b' + 1) (b' + 2) := fun {F O' O2 I' id b' e} h h1 h2 => by
      have hid := h.big _ h.ii
      have hlo := h.lo
      refine ⟨h2, by omega, List.mem_cons_self, fun q hq => ?_, fun q hq => ?_⟩
      · rw [h1 q (by omega) (by omega)]; exact h.keep q hq
      · rcases List.mem_cons.1 hq with rfl | hq
        · omega
        · rcases List.mem_cons.1 hq with rfl | hq
          · omega
          · have := h.big q hq; omega
    rcases h.hl with ⟨rfl, rfl⟩ | ⟨r, rfl, hr, hrc, hrI⟩
    · refine amStr (h := ?_)
      refine amReg PTv_ok (h := ?_)
      refine amStr (h := ?_)
      refine s_loopS (J := fun _ : Unit => ⟨68, [(0, .ptr rc 0 0), (1, .v (.string S)), (2, .v (.int .i64 v)), (7, .ref bd 0 0), (8, .v (.int .i64 0))], (bd, ⟨96, 2, []⟩) :: O, bd :: I⟩) (μ := fun _ => 0) () (SubS.of rfl (by simp) rfl rfl) (fun _ => ?_)
      have hbr : ¬ bd = rc := by omega
      refine amStr (h := ?_)
      refine amReg PTv_ok (h := ?_)
      refine amStr (h := ?_)
      refine ks_exit ?_
      refine amStr (h := ?_)
      refine ⟨rfl, _, _, bd, bd + 1, SubS.of rfl (by simp) rfl rfl, hR0, fun q hq => List.mem_cons_of_mem _ hq⟩
    · have hrb2 := hbd r hrI
      unfold elO at hr
      refine amStr (h := ?_)
      refine amReg PTv_ok (h := ?_)
      refine amStr (h := ?_)
      refine s_loopS (J := fun y : {y : List (Nat × AObj) × List Nat × Nat × Nat × Nat // Hid (RlI O bd (noK ks (es.take y.2.2.2.2)) y.1 y.2.1 y.2.2.1 y.2.2.2.1 ∧ ∀ q ∈ I, q ∈ y.2.1) ∧ y.2.2.2.2 ≤ es.length} => ⟨68, [(0, .ptr rc 0 0), (1, .v (.string S)), (2, .v (.int .i64 v)), (7, .ref y.1.2.2.1 0 (noK ks (es.take y.1.2.2.2.2)).length), (8, .v (.int .i64 (y.1.2.2.2.2 : Int)))], y.1.1, y.1.2.1⟩) (μ := fun y => es.length - y.1.2.2.2.2) ⟨(_, _, bd, bd + 1, 0), Lib.hid ⟨hR0, fun q hq => List.mem_cons_of_mem _ hq⟩, Nat.zero_le _⟩ (SubS.of rfl (by simp) rfl rfl) (fun ⟨⟨O1, I1, id, b1, k⟩, HR, hk⟩ => ?_)
      clear hR0
      dsimp only at HR hk
      dsimp only
      have hck : lk O1 rc = some ⟨53, 2, [[.v (.int .i64 most), .ref r 0 es.length]]⟩ := by rw [HR.out.1.keep rc hrb]; exact hc
      have hrk : lk O1 r = some ⟨96, 2, es.map rE⟩ := by rw [HR.out.1.keep r hrb2]; exact hr
      refine amStr (h := ?_)
      refine amReg PTv_ok (h := ?_)
      refine amStr (h := ?_)
      (focus ((with_reducible refine sp_cond (b := ?_) ?_ (fun hc => ?_) (fun hc => ?_)); rotate_left; (focus (first | rfl | (simp [lk, AS.ev]; rfl))); all_goals (try simp at hc)))
      · rename_i hcn
        have hkk : k < es.length := by omega
        clear hcn
        have hg := rE_get hkk
        have hoke := h.ok es[k] (List.getElem_mem hkk)
        have htk : es.take (k + 1) = es.take k ++ [es[k]] := List.take_succ_eq_append_getElem hkk
        have hwk : IntKind.i64.wrap ((k : Int) + 1) = (k : Int) + 1 := i64w (by omega) (by omega)
        by_cases he : es[k].1 = ks
        · have hft : noK ks (es.take (k + 1)) = noK ks (es.take k) := by
            unfold noK; rw [htk, List.filter_append, List.filter_cons, if_neg (by simp [he])]; simp
          rw [he, hS] at hg
          obtain ⟨q, hq⟩ : ∃ q, es[k].2 = q := ⟨_, rfl⟩
          rw [hq] at hg
          have HF := Lib.hid hft
          clear hft he hoke htk hq
          refine amStr (h := ?_)
          refine amReg PTv_ok (h := ?_)
          refine amStr (h := ?_)
          refine amReg PTv_ok (h := ?_)
          refine amStr (h := ?_)
          refine ks_lp (⟨(O1, I1, id, b1, k + 1), by dsimp only; rw [HF.out]; exact HR, hkk⟩ : {y : List (Nat × AObj) × List Nat × Nat × Nat × Nat // Hid (RlI O bd (noK ks (es.take y.2.2.2.2)) y.1 y.2.1 y.2.2.1 y.2.2.2.1 ∧ ∀ q ∈ I, q ∈ y.2.1) ∧ y.2.2.2.2 ≤ es.length}) (by dsimp only; omega) ?_
          refine SubS.of rfl ?_ rfl rfl
          dsimp only
          rw [HF.out]
          simp
        · have hft : noK ks (es.take (k + 1)) = noK ks (es.take k) ++ [es[k]] := by
            unfold noK; rw [htk, List.filter_append, List.filter_cons, if_pos (by simpa using he)]; simp
          have hne : ¬ strOfNums es[k].1 = S := fun e => he (strOf_inj hoke hkb (e.trans hS.symm))
          obtain ⟨E, hE⟩ : ∃ E, es[k] = E := ⟨_, rfl⟩
          rw [hE] at hg hne hft
          obtain ⟨T, hT⟩ : ∃ T, strOfNums E.1 = T := ⟨_, rfl⟩
          obtain ⟨V, hV⟩ : ∃ V, E.2 = V := ⟨_, rfl⟩
          rw [hT, hV] at hg
          rw [hT] at hne
          have hne2 : (T.data == S.data) = false := beq_eq_false_iff_ne.2 fun h => hne (congrArg ByteArray.mk h)
          have HF := Lib.hid hft
          have HT := Lib.hid (And.intro hT hV)
          clear hft he hoke htk hE hT hV
          have hio := HR.out.1.ob
          unfold elO at hio
          have hidI := HR.out.1.ii
          have hb1 : b1 ∉ I1 := fun h => by have := HR.out.1.big _ h; omega
          have hid1 : id < b1 := HR.out.1.big _ HR.out.1.ii
          obtain ⟨z, hz⟩ : ∃ z, b1 + 1 = z := ⟨_, rfl⟩
          have hz1 : z ∉ I1 := fun h => by have := HR.out.1.big _ h; omega
          have hz2 : ¬ z = b1 := by omega
          have hz3 : ¬ z = id := by omega
          have hz4 : ¬ b1 = id := by omega
          have hz5 : ¬ id = b1 := by omega
          have hz6 : ¬ id = z := by omega
          have hz7 : ¬ b1 = z := by omega
          have hrb1 : ¬ b1 = rc := by have := HR.out.1.lo; omega
          have hrb3 : ¬ b1 = r := by have := HR.out.1.lo; omega
          refine amStr (h := ?_)
          refine amReg PTv_ok (h := ?_)
          refine amStr (h := ?_)
          refine s_regionL ?_
          ((iterate 8 (((with_reducible refine spl_step TT_ok PTv_ok (id := 0) (σ' := ?_) ?_ ?_); rotate_left; (focus (simp [*]; rfl))))))
          have hcap : ((noK ks (es.take k)).length + 1) * 24 ≤ 140737488355328 := by
            have : (noK ks (es.take k)).length ≤ es.length := Nat.le_trans (List.length_filter_le _ _) (by rw [List.length_take]; omega)
            omega
          (((with_reducible refine spl_step TT_ok PTv_ok (id := b1) (σ' := ?_) ?_ ?_); rotate_left; (focus (simp [*]; rfl))))
          (((with_reducible refine spl_step TT_ok PTv_ok (id := z) (σ' := ?_) ?_ ?_); rotate_left; (focus (simp [*]; rfl))))
          ((iterate 1 (((with_reducible refine spl_step TT_ok PTv_ok (id := 0) (σ' := ?_) ?_ ?_); rotate_left; (focus (simp [*]; rfl))))))
          refine spl_nil ?_
          refine amStr (h := ?_)
          refine amReg PTv_ok (h := ?_)
          refine amStr (h := ?_)
          have hO : RlI O bd (noK ks (es.take k) ++ [E]) (st (dl (st O1 b1 ⟨96, 2, [[.v (.string T), .v (.int .i64 V)]]⟩) id) z ⟨96, 2, (noK ks (es.take k)).map rE ++ [[.v (.string T), .v (.int .i64 V)]]⟩) ((b1 + 1) :: b1 :: I1) (b1 + 1) (b1 + 2) := hmore HR.out.1 (fun q h1 h2 => by rw [lk_st, if_neg (by omega), lk_dl, if_neg (by omega), lk_st, if_neg (by omega)]) (by
            rw [lk_st, if_pos hz.symm]
            unfold elO rE
            rw [List.map_append, ← HT.out.1, ← HT.out.2]
            rfl)
          rw [hz] at hO
          have HO : Hid (RlI O bd (noK ks (es.take (k + 1))) _ _ z (b1 + 2) ∧ ∀ q ∈ I, q ∈ z :: b1 :: I1) := Lib.hid ⟨by rw [HF.out]; exact hO, fun q hq => List.mem_cons_of_mem _ (List.mem_cons_of_mem _ (HR.out.2 q hq))⟩
          refine ks_lp (⟨(_, _, z, b1 + 2, k + 1), HO, hkk⟩ : {y : List (Nat × AObj) × List Nat × Nat × Nat × Nat // Hid (RlI O bd (noK ks (es.take y.2.2.2.2)) y.1 y.2.1 y.2.2.1 y.2.2.2.1 ∧ ∀ q ∈ I, q ∈ y.2.1) ∧ y.2.2.2.2 ≤ es.length}) (by dsimp only; omega) ?_
          refine SubS.of rfl ?_ ?_ ?_
          · dsimp only
            rw [HF.out]
            simp
          · rfl
          · rfl
      · rename_i hcn
        obtain rfl : k = es.length := by omega
        clear hcn
        refine amStr (h := ?_)
        refine ks_exit ?_
        refine amStr (h := ?_)
        have hta : es.take es.length = es := List.take_length
        have hR2 := HR.out
        rw [hta] at hR2
        refine ⟨rfl, O1, I1, id, b1, SubS.of rfl ?_ rfl rfl, hR2.1, hR2.2⟩
        rw [hta]
        simp
  · obtain ⟨O1, I1, id, b1, hsub, hR, hII⟩ := hM
    refine s_subS hsub ?_
    clear hsub
    have huF : useZ (noK ks es) ≤ useZ es := use_filter _ es
    have hnF := use_len (noK ks es)
    obtain ⟨F, hF⟩ : ∃ F, noK ks es = F := ⟨_, rfl⟩
    rw [hF] at huF hnF hR ⊢
    have hob := hR.ob
    unfold elO at hob
    have hck : lk O1 rc = some ⟨53, 2, [[.v (.int .i64 most), L]]⟩ := by rw [hR.keep rc hrb]; exact hc
    obtain ⟨W, hW⟩ : ∃ W, most.toNat - (ks.length + 16) = W := ⟨_, rfl⟩
    rw [hW]
    refine amStr (h := ?_)
    refine s_loopS (J := fun y : {j : Nat // j ≤ F.length ∧ dropZ W (F.drop j) = dropZ W F} => ⟨68, [(0, .ptr rc 0 0), (1, .v (.string S)), (2, .v (.int .i64 v)), (7, .ref id y.1 (F.length - y.1))], O1, I1⟩) (μ := fun y => F.length - y.1) ⟨0, Nat.zero_le _, rfl⟩ (SubS.of rfl (by simp) rfl rfl) (fun ⟨j, hj, hjd⟩ => ?_)
    dsimp only
    have hdl : (F.drop j).length = F.length - j := List.length_drop
    have huD : useZ (F.drop j) ≤ useZ F := by
      have := use_append (F.take j) (F.drop j)
      rw [List.take_append_drop] at this
      omega
    have hpu := used_proc (O := O1) (I := I1) (r := id) (j := j) (R := F.map rE) (es := F.drop j) hob (by rw [List.map_drop]) (by simpa using hj) (by omega) (by omega)
    rw [hdl] at hpu
    obtain ⟨U, hU⟩ : ∃ U, useZ (F.drop j) = U := ⟨_, rfl⟩
    obtain ⟨q, hq⟩ : ∃ q, ks.length = q := ⟨_, rfl⟩
    rw [hU] at hpu huD
    rw [hq] at hsz hW hs
    have hw2 : IntKind.i64.wrap ((U : Int) + (q : Int)) = (U : Int) + (q : Int) := i64w (by omega) (by omega)
    have hw3 : IntKind.i64.wrap ((U : Int) + (q : Int) + 16) = (U : Int) + (q : Int) + 16 := i64w (by omega) (by omega)
    have HP := Lib.hid hpu
    clear hpu
    refine amStr (h := ?_)
    refine s_drawV prog_mixed (N := 68) (bs := [(0, .ptr rc 0 0), (1, .v (.string S)), (2, .v (.int .i64 v)), (7, .ref id j (F.length - j))]) (vs := [(46, .ref id j (F.length - j)), (47, .v (.int .i64 (U : Int))), (48, .v (.string S)), (49, .v (.int .i64 (q : Int))), (50, .v (.int .i64 ((U : Int) + (q : Int)))), (51, .v (.int .i64 ((U : Int) + (q : Int) + 16))), (52, .ptr rc 0 0), (53, .ptr rc 0 0), (54, .ptr rc 0 0), (55, .v (.int .i64 most)), (56, .v (.bool (decide (most < (U : Int) + (q : Int) + 16))))]) (Mem := fun _ O' I' => O' = O1 ∧ I' = I1) rfl (by simp) ⟨rfl, rfl⟩ rfl (show ([0, 1, 2, 7, 46, 47, 48, 49, 50, 51, 52, 53, 54, 55, 56] : List Nat).Nodup from by decide) (by kernel_rfl) ?_ ?_
    · intro d S' O' I' i o p ho hp hd hdep hb hv hMM
      obtain ⟨hO', hI'⟩ := hMM
      subst hO' hI'
      have c0 := hb _ (.head _)
      have c1 := hb _ (.tail _ (.head _))
      have c7 := hb _ (.tail _ (.tail _ (.tail _ (.head _))))
      have h46 := hv 0 _ rfl
      have h47 := hv 1 _ rfl
      have h48 := hv 2 _ rfl
      have h49 := hv 3 _ rfl
      have h50 := hv 4 _ rfl
      have h51 := hv 5 _ rfl
      have h52 := hv 6 _ rfl
      have h53 := hv 7 _ rfl
      have h54 := hv 8 _ rfl
      have h55 := hv 9 _ rfl
      dsimp only at c0 c1 c7 h46 h47 h48 h49 h50 h51 h52 h53 h54 h55
      clear hb hv
      rcases i with _ | _ | _ | _ | _ | _ | _ | _ | _ | _ | _ | i
      · cases ho
        cases hp
        simp [Region.binds] at hdep
        ((iterate 1 (((with_reducible refine spl_step TT_ok PTv_ok (id := 0) (σ' := ?_) ?_ ?_); rotate_left; (focus (simp [*]; rfl))))))
        exact spl_nil ⟨rfl, rfl, rfl, fun _ _ => ⟨rfl, rfl⟩⟩
      · cases ho
        cases hp
        simp [Region.binds] at hdep
        have g46 := h46 hdep
        refine spl_procB TT_ok (by rfl) (by rfl) rfl (by kernel_rfl) Tryd.func47 (avs := [.ref id j (F.length - j)]) (cs := []) rfl (by simp [*]) (by simp [Tryd.ntmps47]) HP.out fun av O5 I5 hK => ?_
        obtain ⟨rfl, rfl, rfl⟩ := hK
        exact spl_nil ⟨rfl, rfl, rfl, fun _ _ => ⟨rfl, rfl⟩⟩
      · cases ho
        cases hp
        simp [Region.binds] at hdep
        ((iterate 1 (((with_reducible refine spl_step TT_ok PTv_ok (id := 0) (σ' := ?_) ?_ ?_); rotate_left; (focus (simp [*]; rfl))))))
        exact spl_nil ⟨rfl, rfl, rfl, fun _ _ => ⟨rfl, rfl⟩⟩
      · cases ho
        cases hp
        simp [Region.binds] at hdep
        ((iterate 1 (((with_reducible refine spl_step TT_ok PTv_ok (id := 0) (σ' := ?_) ?_ ?_); rotate_left; (focus (simp [*]; rfl))))))
        exact spl_nil ⟨rfl, rfl, rfl, fun _ _ => ⟨rfl, rfl⟩⟩
      · cases ho
        cases hp
        simp [Region.binds] at hdep
        ((iterate 1 (((with_reducible refine spl_step TT_ok PTv_ok (id := 0) (σ' := ?_) ?_ ?_); rotate_left; (focus (simp [*]; rfl))))))
        exact spl_nil ⟨rfl, rfl, rfl, fun _ _ => ⟨rfl, rfl⟩⟩
      · cases ho
        cases hp
        simp [Region.binds] at hdep
        ((iterate 1 (((with_reducible refine spl_step TT_ok PTv_ok (id := 0) (σ' := ?_) ?_ ?_); rotate_left; (focus (simp [*]; rfl))))))
        exact spl_nil ⟨rfl, rfl, rfl, fun _ _ => ⟨rfl, rfl⟩⟩
      · cases ho
        cases hp
        simp [Region.binds] at hdep
        ((iterate 1 (((with_reducible refine spl_step TT_ok PTv_ok (id := 0) (σ' := ?_) ?_ ?_); rotate_left; (focus (simp [*]; rfl))))))
        exact spl_nil ⟨rfl, rfl, rfl, fun _ _ => ⟨rfl, rfl⟩⟩
      · cases ho
        cases hp
        simp [Region.binds] at hdep
        ((iterate 1 (((with_reducible refine spl_step TT_ok PTv_ok (id := 0) (σ' := ?_) ?_ ?_); rotate_left; (focus (simp [*]; rfl))))))
        exact spl_nil ⟨rfl, rfl, rfl, fun _ _ => ⟨rfl, rfl⟩⟩
      · cases ho
        cases hp
        simp [Region.binds] at hdep
        ((iterate 1 (((with_reducible refine spl_step TT_ok PTv_ok (id := 0) (σ' := ?_) ?_ ?_); rotate_left; (focus (simp [*]; rfl))))))
        exact spl_nil ⟨rfl, rfl, rfl, fun _ _ => ⟨rfl, rfl⟩⟩
      · cases ho
        cases hp
        simp [Region.binds] at hdep
        ((iterate 1 (((with_reducible refine spl_step TT_ok PTv_ok (id := 0) (σ' := ?_) ?_ ?_); rotate_left; (focus (simp [*]; rfl))))))
        exact spl_nil ⟨rfl, rfl, rfl, fun _ _ => ⟨rfl, rfl⟩⟩
      · cases ho
        cases hp
        simp [Region.binds] at hdep
        ((iterate 1 (((with_reducible refine spl_step TT_ok PTv_ok (id := 0) (σ' := ?_) ?_ ?_); rotate_left; (focus (simp [*]; rfl))))))
        exact spl_nil ⟨rfl, rfl, rfl, fun _ _ => ⟨rfl, rfl⟩⟩
      · simp at ho
    · intro d S' O' I' hall hb hv hMM
      obtain ⟨hO', hI'⟩ := hMM
      subst hO' hI'
      have c0 := hb _ (.head _)
      have c1 := hb _ (.tail _ (.head _))
      have c2 := hb _ (.tail _ (.tail _ (.head _)))
      have c7 := hb _ (.tail _ (.tail _ (.tail _ (.head _))))
      have c56 := hv (56, .v (.bool (decide (most < (U : Int) + (q : Int) + 16)))) (by simp)
      dsimp only at c0 c1 c2 c7 c56
      clear hb hv hall HP
      refine k_seq ?_
      refine s_subS (τ := ⟨68, [(0, .ptr rc 0 0), (1, .v (.string S)), (2, .v (.int .i64 v)), (7, .ref id j (F.length - j)), (56, .v (.bool (decide (most < (U : Int) + (q : Int) + 16))))], _, _⟩) (SubS.of rfl (fun p hp => by
        simp only [List.mem_cons, List.not_mem_nil, or_false] at hp
        rcases hp with rfl | rfl | rfl | rfl | rfl <;> assumption) rfl rfl) ?_
      clear c0 c1 c2 c7 c56
      by_cases hlt : most < (U : Int) + (q : Int) + 16
      · rw [decide_eq_true hlt]
        have hjF : j < F.length := by
          rcases Nat.lt_or_ge j F.length with h | h
          · exact h
          · exfalso
            have : F.drop j = [] := List.drop_of_length_le h
            rw [this] at hU
            have : U = 0 := hU.symm
            omega
        have hj1 : dropZ W (F.drop (j + 1)) = dropZ W F := by
          rw [← hjd, List.drop_eq_getElem_cons hjF]
          have : useZ (F[j] :: F.drop (j + 1)) > W := by rw [← List.drop_eq_getElem_cons hjF, hU]; omega
          rw [dropZ, if_pos this]
        have hn1 : (1 : Int) ≤ ((F.length - j : Nat) : Int) := by omega
        have hn2 : F.length - (j + 1) = F.length - j - 1 := by omega
        refine amStr (h := ?_)
        refine s_regionL ?_
        ((iterate 1 (((with_reducible refine spl_step TT_ok PTv_ok (id := 0) (σ' := ?_) ?_ ?_); rotate_left; (focus (simp [*]; rfl))))))
        ((iterate 1 (((with_reducible refine spl_step TT_ok PTv_ok (id := 0) (σ' := ?_) ?_ ?_); rotate_left; (focus (simp [*]; rfl))))))
        ((iterate 1 (((with_reducible refine spl_step TT_ok PTv_ok (id := 0) (σ' := ?_) ?_ ?_); rotate_left; (focus (simp [*]; rfl))))))
        refine spl_nil ?_
        refine amStr (h := ?_)
        refine ks_lp (⟨j + 1, hjF, hj1⟩ : {j : Nat // j ≤ F.length ∧ dropZ W (F.drop j) = dropZ W F}) (by dsimp only; omega) ?_
        refine SubS.of rfl ?_ rfl rfl
        dsimp only
        rw [hn2]
        simp
      · rw [decide_eq_false hlt]
        have hdr : F.drop j = dropZ W F := by rw [← hjd, drop_all (by rw [hU]; omega)]
        refine amStr (h := ?_)
        refine ks_exit ?_
        refine amStr (h := ?_)
        obtain ⟨z, hz⟩ : ∃ z, b1 + 1 = z := ⟨_, rfl⟩
        have hidI := hR.ii
        have hid1 := hR.big _ hidI
        have hb1 : b1 ∉ I' := fun h => by have := hR.big _ h; omega
        have hz1 : z ∉ I' := fun h => by have := hR.big _ h; omega
        have hlo := hR.lo
        have hz2 : ¬ z = b1 := by omega
        have hz3 : ¬ z = id := by omega
        have hz4 : ¬ b1 = id := by omega
        have hz5 : ¬ id = b1 := by omega
        have hz6 : ¬ id = z := by omega
        have hz7 : ¬ b1 = z := by omega
        have hz8 : ¬ z = rc := by omega
        have hz9 : ¬ id = rc := by omega
        have hz0 : ¬ b1 = rc := by omega
        have hcap : (F.length - j + 1) * 24 ≤ 140737488355328 := by omega
        have hfu : (F.map rE).length = F.length := List.length_map _
        have hjn : j + (F.length - j) = F.length := by omega
        have hrcI : rc ∈ I' := hII rc h.ic
        refine s_regionL ?_
        ((iterate 5 (((with_reducible refine spl_step TT_ok PTv_ok (id := 0) (σ' := ?_) ?_ ?_); rotate_left; (focus (simp [*]; rfl))))))
        (((with_reducible refine spl_step TT_ok PTv_ok (id := b1) (σ' := ?_) ?_ ?_); rotate_left; (focus (simp [*]; rfl))))
        (((with_reducible refine spl_step TT_ok PTv_ok (id := z) (σ' := ?_) ?_ ?_); rotate_left; (focus (simp [*]; rfl))))
        ((iterate 3 (((with_reducible refine spl_step TT_ok PTv_ok (id := 0) (σ' := ?_) ?_ ?_); rotate_left; (focus (simp [*]; rfl))))))
        refine spl_nil ?_
        refine amStr (h := ?_)
        refine amReg PTv_ok (h := ?_)
        refine amStr (h := ?_)
        refine ⟨.inr rfl, _, rfl, rfl, z, F.length - j + 1, b1 + 2, by omega, ⟨?_, .inr ⟨z, ?_, ?_, ?_, ?_⟩, ?_, ?_⟩, ?_, ?_, ?_, ?_⟩
        · simp [rcO]
        · rw [← hdr, List.length_append, hdl]; rfl
        · rw [← hdr]
          unfold elO
          rw [List.map_append, List.map_drop]
          simp [rE, hS, hz8, Ne.symm hz8]
        · exact hz8
        · simp
        · have := hII rc h.ic; simp [this]
        · intro e he
          rcases List.mem_append.1 he with he | he
          · have h1 := (drop_sfx W F).subset he
            rw [← hF] at h1
            exact h.ok e (List.mem_filter.1 h1).1
          · obtain rfl : e = (ks, v) := by simpa using he
            exact hkb
        · intro x hx
          simp at hx
          rcases hx with rfl | rfl | hx
          · omega
          · omega
          · have := hR.big _ hx; omega
        · intro x hx
          have := hII x hx
          simp [this]
        · omega
        · intro x hx hxc
          have h1 : ¬ rc = x := fun e => hxc e.symm
          have h2 : ¬ z = x := by omega
          have h3 : ¬ id = x := by omega
          have h4 : ¬ b1 = x := by omega
          simp [h1, h2, h3, h4]
          exact hR.keep x hx
end Go.Proofs.YtafikekndefjcaaDoor
