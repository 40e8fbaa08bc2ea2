/- ExplainEnough: a reason is sufficient, and it is not without one of its literals. -/
import Derived.Test.YtecdhmiamlgibaaDoorPe39
import Derived.Test.YtecdhmiamlgibaaDoorWa
import Derived.Test.YtecdhmiamlgibaaDoorLd
namespace Go.Proofs.YtecdhmiamlgibaaDoor
set_option linter.unusedVariables false
set_option linter.unusedSimpArgs false
set_option linter.unusedSectionVars false
open Go.RowKit Go.WideShapes Go.ChangeShapes Go.ChangeAt
attribute [local simp] List.getD_cons_zero List.getD_cons_succ List.getD_nil undef gvars runL runE effA stepA dstOk wantA core lk st dl AS.ev AS.evs AS.put AS.upd updO updI nxt cPick cAlloc cBox cBuild cBuildS cLoad cStore cNil plainOf cBin cNilS isNilS nilA cUn cConvX cConvB cConv bytesOf rowB cMake cSlice slA idxA cFA cF cIA cIX cIS cI cExt cLen cApp cMM cFun cCall lenA lenM isNilM nilM cNilM cMakeM hintB cMapK cLook foundR lookR cUpd putM cDel delM findA isKeyB Instr.sameNow AS.entry AS.bound AS.callee sc1 sc2 ixOk ldA AV.flat AV.cell AV.cells Value.oneCell' fillA spl chunk zeros AS.parts AS.rows AS.shut AS.shut1 AS.shut2 AS.shutL AS.shutM AV.ids idsL idsLL eqAll bndA AV.scalar AV.scalar1 AV.isV Ef.app Ef.pk ptOf pntO wrO wr
attribute [-simp] List.getD_eq_getElem?_getD
set_option maxRecDepth 100000
theorem few_light {N : Int} {ns : List Nd} {most : Int} (h : fewN N ns most = true) : lightN ns = true := by
  unfold fewN at h
  rw [Bool.and_eq_true] at h
  exact h.1
theorem getD_memR {L : List (List Int)} {k : Nat} (hk : k < L.length) : L.getD k [] ∈ L := by
  rw [List.getD_eq_getElem?_getD, List.getElem?_eq_getElem hk]; exact List.getElem_mem _
theorem getD_neR {L : List (List Int)} (h : L.Nodup) {j k : Nat} (hjk : j < k) (hk : k < L.length) : L.getD j [] ≠ L.getD k [] := by
  rw [List.getD_eq_getElem?_getD, List.getElem?_eq_getElem (by omega : j < L.length), List.getD_eq_getElem?_getD, List.getElem?_eq_getElem hk]
  exact List.pairwise_iff_getElem.1 h j k (by omega) hk hjk
set_option maxHeartbeats 16000000 in
theorem enough_ok (N : Int) (ns : List Nd) (a b : BitVec 128) (hN : okI N = true) (h0 : okN0 ns = true) (hf : fewN N ns 10 = true) (hv : (validN N ns && subB a N) = true) (h16 : (matL ns).length ≤ 16) : FnPure Tryd.prog 7 [aNet N ns, aSet a, aSet b] (.v (.bool true)) := by
  have hl := okN0_len h0
  have h10 : okI 10 = true := rfl
  have hk := okNs_of h0 (few_light hf)
  have h1 := reaA_ok hv h16
  have hrows := reaX_rows a h16
  have hvN : validN N ns = true := (Bool.and_eq_true _ _ ▸ hv).1
  have HL := Lib.hid (reaX_lits a h16)
  have HE := Lib.hid fun r (hr : r ∈ reaX ns a) => enough hvN h16 hr
  have HB := Lib.hid fun r (hr : r ∈ reaX ns a) k (hk : k < r.length) => (biasR_ok (sAll N &&& ~~~ (holdL (absL (cutL r k)) 0#128)) hv h16).trans (by rw [less_bias hvN h16 hr hk])
  have HA := Lib.hid fun c d (hc : c ∈ reaX ns a) (hd : d ∈ reaX ns a) => reaX_apart (a := a) h16 hc hd
  have HND := Lib.hid (reaX_nodup a h16)
  have hpos := reaX_some ns a
  generalize reaX ns a = L at h1 hrows HL HE HB HA HND hpos
  have hz : toSet (.agg [.v (.int .u64 0), .v (.int .u64 0)]) = some 0#128 := rfl
  obtain ⟨e1, e2, _⟩ := lo_op b (sAll N)
  unfold aNet aNds aSet WV
  refine fn_sp TT_ok Tryd.func7 (c := _) rfl (by simp [Tryd.ntmps7]) (fun B hI0 hro => ?_)
  rw [Tryd.ntmps7]
  simp only [enumA]
  refine amStr (h := ?_)
  refine amReg PT155_ok (h := ?_)
  refine amStr (h := ?_)
  refine amReg PT155_ok (h := ?_)
  refine amStr (h := ?_)
  refine amReg PT155_ok (h := ?_)
  refine amStr (h := ?_)
  refine amReg PT155_ok (h := ?_)
  refine amStr (h := ?_)
  refine amDrw PT155_ok (h := ?_)
  refine amStr (h := ?_)
  refine amReg PT155_ok (h := ?_)
  refine amStr (h := ?_)
  obtain ⟨c, hcb⟩ : ∃ c, b &&& sAll N = c := ⟨_, rfl⟩
  rw [hcb] at e1 e2
  refine s_loop (J := fun i : {k : Nat // k ≤ L.length} => ⟨117, [(3, .ptr 0 0 0), (4, .ptr 1 0 0), (5, .ptr 2 0 0), (7, aRows L), (39, aRows L), (40, .v (.int .i64 (L.length : Int))), (41, .v (.int .i64 (i.1 : Int)))], [(0, ⟨24, 2, [[.v (.int .i64 N), .sl 3 (ns.map fun x => [AV.v (.int .i64 x.1), AV.v (.int .i64 x.2.1), aInts x.2.2])]]⟩), (1, ⟨27, 2, [[.v (.int .u64 ((lo a).toNat : Int)), .v (.int .u64 ((hi a).toNat : Int))]]⟩), (2, ⟨27, 2, [[.v (.int .u64 ((lo c).toNat : Int)), .v (.int .u64 ((hi c).toNat : Int))]]⟩)], [2, 1, 0]⟩) (μ := fun i => L.length - i.1) ⟨0, Nat.zero_le _⟩ ?_ (fun ⟨k, hkL⟩ => ?_)
  · (refine weak_id rfl ?_ ?_ <;> ((try simp only [List.mem_cons, List.not_mem_nil, or_false, forall_eq_or_imp, forall_eq]); (try simp (disch := omega) [i64w, *])))
  clear hcb e1 e2
  refine amStr (h := ?_)
  refine amReg PT155_ok (h := ?_)
  refine amStr (h := ?_)
  (focus ((with_reducible refine sp_cond (b := ?_) ?_ (fun hc => ?_) (fun hc => ?_)); rotate_left; (focus (first | rfl | (simp [lk, AS.ev]; rfl))); all_goals (try simp at hc)))
  · have hkk := hc
    clear hc
    have hm := getD_memR hkk
    have hlx := HL.out _ hm
    have hen := HE.out _ hm c
    have hbi := Lib.hid (HB.out _ hm)
    have hlb := litsB_iff.2 hlx
    have hoi := okRows_at hrows k
    have hlen := okRows_len hrows
    have hap1 := Lib.hid fun j (hj : j < k) => HA.out _ _ (getD_memR (by omega : j < L.length)) hm (getD_neR HND.out hj hkk)
    have hap2 := Lib.hid fun j (hj : j < k) => HA.out _ _ hm (getD_memR (by omega : j < L.length)) (getD_neR HND.out hj hkk).symm
    have hwk : IntKind.i64.wrap ((k : Int) + 1) = (k : Int) + 1 := i64w (by omega) (by omega)
    have hLX := Lib.hid hlx
    clear hlx hm
    obtain ⟨R, hR⟩ : ∃ R, L.getD k [] = R := ⟨_, rfl⟩
    rw [hR] at hen hbi hlb hoi hap1 hap2 hLX
    have hrl := okInts_len hoi
    refine amStr (h := ?_)
    refine amReg PT155_ok (h := ?_)
    refine amStr (h := ?_)
    refine amDrw PT155_ok (h := ?_)
    refine amStr (h := ?_)
    refine amReg PT155_ok (h := ?_)
    refine amStr (h := ?_)
    refine s_loop (J := fun i : {k : Nat // k ≤ R.length} => ⟨117, [(3, .ptr 0 0 0), (4, .ptr 1 0 0), (5, .ptr 2 0 0), (7, aRows L), (39, aRows L), (40, .v (.int .i64 (L.length : Int))), (41, .v (.int .i64 (k : Int))), (9, .v (.int .i64 (k : Int))), (10, aInts R), (56, .v (.int .i64 (R.length : Int))), (57, .v (.int .i64 (i.1 : Int)))], [(0, ⟨24, 2, [[.v (.int .i64 N), .sl 3 (ns.map fun x => [AV.v (.int .i64 x.1), AV.v (.int .i64 x.2.1), aInts x.2.2])]]⟩), (1, ⟨27, 2, [[.v (.int .u64 ((lo a).toNat : Int)), .v (.int .u64 ((hi a).toNat : Int))]]⟩), (2, ⟨27, 2, [[.v (.int .u64 ((lo c).toNat : Int)), .v (.int .u64 ((hi c).toNat : Int))]]⟩)], [2, 1, 0]⟩) (μ := fun i => R.length - i.1) ⟨0, Nat.zero_le _⟩ ?_ (fun ⟨m, hmR⟩ => ?_)
    · (refine weak_id rfl ?_ ?_ <;> ((try simp only [List.mem_cons, List.not_mem_nil, or_false, forall_eq_or_imp, forall_eq]); (try simp (disch := omega) [i64w, *])))
    refine amStr (h := ?_)
    refine amReg PT155_ok (h := ?_)
    refine amStr (h := ?_)
    (focus ((with_reducible refine sp_cond (b := ?_) ?_ (fun hc => ?_) (fun hc => ?_)); rotate_left; (focus (first | rfl | (simp [lk, AS.ev]; rfl))); all_goals (try simp at hc)))
    · have hmm := hc
      clear hc
      have hbk := hbi.out m hmm
      have hmin : min m R.length = m := by omega
      have hcap1 : m * 8 ≤ 140737488355328 := by omega
      have hcap2 : (m + (R.length - (m + 1))) * 8 ≤ 140737488355328 := by omega
      have hwm : IntKind.i64.wrap ((m : Int) + 1) = (m : Int) + 1 := i64w (by omega) (by omega)
      have hm1 : (m : Int) + 1 ≤ (R.length : Int) := by omega
      refine amStr (h := ?_)
      refine amReg PT155_ok (h := ?_)
      refine amStr (h := ?_)
      refine amDrw PT155_ok (h := ?_)
      refine amStr (h := ?_)
      have hcl : (cutL R m).length = m + (R.length - (m + 1)) := by unfold cutL; rw [List.length_append, List.length_take, List.length_drop]; omega
      have hcx : (cutL R m).map (fun x => [AV.v (.int .i64 x)]) = List.take m (List.map (fun x => [AV.v (.int .i64 x)]) R) ++ List.take (R.length - (m + 1)) (List.drop (m + 1) (List.map (fun x => [AV.v (.int .i64 x)]) R)) := by
        rw [List.take_of_length_le (l := List.drop (m + 1) (List.map (fun x => [AV.v (.int .i64 x)]) R)) (by simp)]
        unfold cutL
        rw [List.map_append, List.map_take, List.map_drop]
      rw [← hcx, ← hcl]
      clear hcl hcx
      refine s_weak (τ := ⟨117, [(3, .ptr 0 0 0), (4, .ptr 1 0 0), (5, .ptr 2 0 0), (7, aRows L), (39, aRows L), (40, .v (.int .i64 (L.length : Int))), (41, .v (.int .i64 (k : Int))), (9, .v (.int .i64 (k : Int))), (10, aInts R), (56, .v (.int .i64 (R.length : Int))), (57, .v (.int .i64 (m : Int))), (12, .ref 12 0 (cutL R m).length)], [(0, ⟨24, 2, [[.v (.int .i64 N), .sl 3 (ns.map fun x => [AV.v (.int .i64 x.1), AV.v (.int .i64 x.2.1), aInts x.2.2])]]⟩), (1, ⟨27, 2, [[.v (.int .u64 ((lo a).toNat : Int)), .v (.int .u64 ((hi a).toNat : Int))]]⟩), (2, ⟨27, 2, [[.v (.int .u64 ((lo c).toNat : Int)), .v (.int .u64 ((hi c).toNat : Int))]]⟩), (12, ⟨3, 1, (cutL R m).map fun x => [.v (.int .i64 x)]⟩)], [12, 2, 1, 0]⟩) ?_ ?_
      · (refine weak_id rfl ?_ ?_ <;> ((try simp only [List.mem_cons, List.not_mem_nil, or_false, forall_eq_or_imp, forall_eq]); (try simp (disch := omega) [i64w, *])))
      have hdo := cutL_ok hmm hoi
      have hdx := cutL_lits hmm hLX.out
      have hdb := litsB_iff.2 hdx
      have hao := abs_ok hdo hdx
      have hab := litsB_iff.2 (abs_lits hdx)
      clear hdx
      generalize cutL R m = D at hbk hdo hdb hao hab ⊢
      (refine s_eq (τ := ?_) ?_ ?_; rotate_left; (focus ((try simp only [AS.frz, List.map_cons, List.map_nil]); (try simp [frzV, frzO, frzC, List.filter]); rfl)))
      refine s_frz (fun q => q == 12) ?_
      (refine s_eq (τ := ?_) ?_ ?_; rotate_left; (focus ((try simp only [AS.frz, List.map_cons, List.map_nil]); (try simp [frzV, frzO, frzC, List.filter]); rfl)))
      obtain ⟨_, _, _, _, g1, g2⟩ := lo_op (sAll N) (holdL (absL D) 0#128)
      refine amStr (h := ?_)
      refine amDrw PT155_ok (h := ?_)
      refine amStr (h := ?_)
      refine amReg PT155_ok (h := ?_)
      refine amStr (h := ?_)
      refine amReg PT155_ok (h := ?_)
      refine k_lp (⟨m + 1, by omega⟩ : {k : Nat // k ≤ R.length}) (by first | omega | (dsimp only; omega)) ?_
      (refine weak_id rfl ?_ ?_ <;> ((try simp only [List.mem_cons, List.not_mem_nil, or_false, forall_eq_or_imp, forall_eq]); (try simp (disch := omega) [i64w, *])))
    · clear hc
      refine amStr (h := ?_)
      refine amReg PT155_ok (h := ?_)
      refine amStr (h := ?_)
      clear hbi hen
      refine s_loop (J := fun i : {j : Nat // j ≤ k} => ⟨117, [(3, .ptr 0 0 0), (4, .ptr 1 0 0), (5, .ptr 2 0 0), (7, aRows L), (39, aRows L), (40, .v (.int .i64 (L.length : Int))), (41, .v (.int .i64 (k : Int))), (10, aInts R), (91, .v (.int .i64 (k : Int))), (92, .v (.int .i64 (i.1 : Int)))], [(0, ⟨24, 2, [[.v (.int .i64 N), .sl 3 (ns.map fun x => [AV.v (.int .i64 x.1), AV.v (.int .i64 x.2.1), aInts x.2.2])]]⟩), (1, ⟨27, 2, [[.v (.int .u64 ((lo a).toNat : Int)), .v (.int .u64 ((hi a).toNat : Int))]]⟩), (2, ⟨27, 2, [[.v (.int .u64 ((lo c).toNat : Int)), .v (.int .u64 ((hi c).toNat : Int))]]⟩)], [2, 1, 0]⟩) (μ := fun i => k - i.1) ⟨0, Nat.zero_le _⟩ ?_ (fun ⟨j, hjk⟩ => ?_)
      · (refine weak_id rfl ?_ ?_ <;> ((try simp only [List.mem_cons, List.not_mem_nil, or_false, forall_eq_or_imp, forall_eq]); (try simp (disch := omega) [i64w, *])))
      refine amStr (h := ?_)
      refine amReg PT155_ok (h := ?_)
      refine amStr (h := ?_)
      (focus ((with_reducible refine sp_cond (b := ?_) ?_ (fun hc => ?_) (fun hc => ?_)); rotate_left; (focus (first | rfl | (simp [lk, AS.ev]; rfl))); all_goals (try simp at hc)))
      · have hjj := hc
        clear hc
        have q1 := hap1.out j hjj
        have q2 := hap2.out j hjj
        have q3 := okRows_at hrows j
        have hjL : j < L.length := by omega
        have hjLi : (j : Int) < (L.length : Int) := by omega
        have hwj : IntKind.i64.wrap ((j : Int) + 1) = (j : Int) + 1 := i64w (by omega) (by omega)
        obtain ⟨C, hC⟩ : ∃ C, L.getD j [] = C := ⟨_, rfl⟩
        rw [hC] at q1 q2 q3
        refine amStr (h := ?_)
        refine amReg PT155_ok (h := ?_)
        refine amStr (h := ?_)
        refine amReg PT155_ok (h := ?_)
        refine amStr (h := ?_)
        refine amReg PT155_ok (h := ?_)
        refine k_lp (⟨j + 1, by omega⟩ : {j : Nat // j ≤ k}) (by first | omega | (dsimp only; omega)) ?_
        (refine weak_id rfl ?_ ?_ <;> ((try simp only [List.mem_cons, List.not_mem_nil, or_false, forall_eq_or_imp, forall_eq]); (try simp (disch := omega) [i64w, *])))
      · clear hc
        refine amStr (h := ?_)
        refine amReg PT155_ok (h := ?_)
        refine k_lp (⟨k + 1, by omega⟩ : {k : Nat // k ≤ L.length}) (by first | omega | (dsimp only; omega)) ?_
        (refine weak_id rfl ?_ ?_ <;> ((try simp only [List.mem_cons, List.not_mem_nil, or_false, forall_eq_or_imp, forall_eq]); (try simp (disch := omega) [i64w, *])))
  · clear hc
    have hp2 : (0 : Int) < (L.length : Int) := by omega
    refine amGo PT155_ok (h := ?_)
    ((refine post_ret (av := ?_) (by first | exact .inl rfl | exact .inr rfl) (show (Tryd.f7).results.toList = _ from by rw [Tryd.results7]) ?_ ?_); rotate_left; (focus (simp [retA, retL, ret1, lk, st, ldA, AV.cell]; rfl)); (try simp [*]))
theorem enough_p (N : Int) (ns : List Nd) (a b : BitVec 128) (hN : okI N = true) (h0 : okN0 ns = true) : FnPure Tryd.prog 7 [aNet N ns, aSet a, aSet b] (.v (.bool true)) := by
  have hl := okN0_len h0
  have h10 : okI 10 = true := rfl
  cases hf : fewN N ns 10
  · unfold aNet aNds aSet WV
    refine fn_sp TT_ok Tryd.func7 (c := _) rfl (by simp [Tryd.ntmps7]) (fun B hI0 hro => ?_)
    rw [Tryd.ntmps7]
    simp only [enumA]
    refine amGo PT155_ok (h := ?_)
    ((refine post_ret (av := ?_) (by first | exact .inl rfl | exact .inr rfl) (show (Tryd.f7).results.toList = _ from by rw [Tryd.results7]) ?_ ?_); rotate_left; (focus (simp [retA, retL, ret1, lk, st, ldA, AV.cell]; rfl)); (try simp [*]))
  have hk := okNs_of h0 (few_light hf)
  cases hv : (validN N ns && subB a N)
  · have h1 := reaA_bad hv
    unfold aNet aNds aSet WV
    refine fn_sp TT_ok Tryd.func7 (c := _) rfl (by simp [Tryd.ntmps7]) (fun B hI0 hro => ?_)
    rw [Tryd.ntmps7]
    simp only [enumA]
    refine amGo PT155_ok (h := ?_)
    ((refine post_ret (av := ?_) (by first | exact .inl rfl | exact .inr rfl) (show (Tryd.f7).results.toList = _ from by rw [Tryd.results7]) ?_ ?_); rotate_left; (focus (simp [retA, retL, ret1, lk, st, ldA, AV.cell]; rfl)); (try simp [*]))
  by_cases h16 : 16 < (matL ns).length
  · have h1 := reaA_long hv h16
    unfold aNet aNds aSet WV
    refine fn_sp TT_ok Tryd.func7 (c := _) rfl (by simp [Tryd.ntmps7]) (fun B hI0 hro => ?_)
    rw [Tryd.ntmps7]
    simp only [enumA]
    refine amGo PT155_ok (h := ?_)
    ((refine post_ret (av := ?_) (by first | exact .inl rfl | exact .inr rfl) (show (Tryd.f7).results.toList = _ from by rw [Tryd.results7]) ?_ ?_); rotate_left; (focus (simp [retA, retL, ret1, lk, st, ldA, AV.cell]; rfl)); (try simp [*]))
  · exact enough_ok N ns a b hN h0 hf hv (by omega)
namespace explainEnough
set_option maxRecDepth 100000
theorem contract (H : Type) (enc : TypeId × Value → H) (W : World) (base : Nat) (args : Array Value) (ds gs : List (DataW H)) (before : List MemPlace)
    (hval0 : ∀ (j : Nat) t v, (Go.Proofs.Tryd.f7).params[j]? = some t → args[j]? = some v → Value.okWide Tryd.prog W .any base t v)
    (hW : DataW.Whole enc Tryd.prog (Go.Proofs.Tryd.f7).params.toList Rows.explainEnoughSpec.vars false W args.toList ds gs before) (hL : laidMetH Tryd.prog Rows.explainEnoughRow.laid W) :
    Calls Tryd.prog 7 args W fun e W' => ∃ v, e = .returned v ∧ Rows.explainEnoughSpec.post enc Tryd.prog Go.Proofs.Tryd.f7 false true false false W args v W' := by
  have hval : ∀ (j : Nat) t v, (Go.Proofs.Tryd.f7).params[j]? = some t → args[j]? = some v → Value.okWide Tryd.prog W .any base t v := hval0
  have hW2 := hW
  obtain ⟨p, q, hA0, hV, _, _, _⟩ := hW
  have hA : DataW.TrodAll enc Tryd.prog W 0 (fun _ => true) true (Go.Proofs.Tryd.f7).params.toList args.toList ds p := hA0
  rw [Tryd.params7] at hA hval
  clear hA0 hval0
  obtain ⟨rfl, _⟩ := trodVars_none hV
  obtain ⟨v0, vs0, d0, ds0, p0, q0, hargs, rfl, _, h0, r0⟩ := trodAll_cons hA
  obtain ⟨v1, vs1, d1, ds1, p1, q1, rfl, rfl, _, h1, r1⟩ := trodAll_cons r0
  obtain ⟨v2, vs2, d2, ds2, p2, q2, rfl, rfl, _, h2, r2⟩ := trodAll_cons r1
  obtain ⟨rfl, rfl, _⟩ := trodAll_nil r2
  obtain rfl : args = #[v0, v1, v2] := by cases args; simp_all
  obtain ⟨N, ns, ra0, oN0, oL0⟩ := arg_net (hval 0 _ v0 rfl rfl) h0
  obtain ⟨a, ra1⟩ := arg_set (hval 1 _ v1 rfl rfl) h1
  obtain ⟨b, ra2⟩ := arg_set (hval 2 _ v2 rfl rfl) h2
  refine law_of_pure (glob_of_laid hL) (avs := [aNet N ns, aSet a, aSet b]) (by kernel_rfl) hW2 rfl (rec_ok (by kernel_rfl)) (tb := 4) rfl Tryd.underlying4 rfl rfl rfl rfl (fun i hi => ?_) (enough_p N ns a b oN0 oL0)
  match i, hi with
  | 0, _ => exact ra0
  | 1, _ => exact ra1
  | 2, _ => exact ra2
theorem laid_met (os : Os) : laidMet Tryd.prog Rows.explainEnoughRow.laid ((laidWorld os).forCall (fun _ _ => 0) ⟨#[], #[.agg #[.int .i64 0, .slice none 0 0], .agg #[.int .u64 0, .int .u64 0], .agg #[.int .u64 0, .int .u64 0]], []⟩).memory :=
  laidMet_of_run' 8 (by kernel_rfl) (by kernel_rfl)
theorem lifted (os : Os) (started : os.Started) (H : Type) (enc : TypeId × Value → H) (F : Stop.Interp) :
    ReturnsInHanded {} Tryd.checked os 7 .any ((OpenSpec.ofChange Rows.explainEnoughSpec).preRow enc Tryd.prog Go.Proofs.Tryd.f7 Rows.explainEnoughRow.domain false Rows.explainEnoughRow.laid) (((OpenSpec.ofChange Rows.explainEnoughSpec).at F).post enc Tryd.prog Go.Proofs.Tryd.f7 false true false false) := by
  refine returnsInHanded_of_row (C := Tryd.checked) (s := OpenSpec.ofChange Rows.explainEnoughSpec) (by kernel_rfl) started (by kernel_rfl) Tryd.func7
    (witness_row_at (enc := enc) (C := Tryd.checked) false (laidWorld os) #[.agg #[.int .i64 0, .slice none 0 0], .agg #[.int .u64 0, .int .u64 0], .agg #[.int .u64 0, .int .u64 0]] rfl (by kernel_rfl) (by kernel_rfl) (by kernel_rfl)
      (OpenSpec.preRow_of_cond 8 (show DataW.whole enc Tryd.prog ((laidWorld os).forCall (fun _ _ => 0) ⟨#[], #[.agg #[.int .i64 0, .slice none 0 0], .agg #[.int .u64 0, .int .u64 0], .agg #[.int .u64 0, .int .u64 0]], []⟩).memory (Go.Proofs.Tryd.f7).params.toList Rows.explainEnoughSpec.vars false (#[.agg #[.int .i64 0, .slice none 0 0], .agg #[.int .u64 0, .int .u64 0], .agg #[.int .u64 0, .int .u64 0]] : Array Value).toList 8 = some ([.agg [.lit (.int .i64 0), .nil], .agg [.lit (.int .u64 0), .lit (.int .u64 0)], .agg [.lit (.int .u64 0), .lit (.int .u64 0)]], [], []) by kernel_rfl) (by kernel_rfl) (fun k hk => by cases hk) (by kernel_rfl) (laid_met os))) ?_
  intro W base args ds gs before hval hW _ _ _ hL _ _
  exact contract H enc W base args ds gs before hval hW hL
theorem said : Rows.ExplainEnoughSaid :=
  OpenClaim.holds_of_cond 7 Go.Proofs.Tryd.f7 rfl rfl rfl rfl rfl rfl rfl ⟨rfl, rfl, rfl, rfl, rfl⟩ rfl rfl rfl rfl rfl (by kernel_rfl) Tryd.func7 (by kernel_rfl)
    (of_decide_eq_true (by kernel_rfl)) (by unfold Func.isWrapper; first | (rw [if_pos (by decide +kernel)]; kernel_rfl) | (rw [if_neg (by decide +kernel)]; exact ⟨rfl, rfl⟩))
    (fun os started H enc _ F => by rw [OpenClaim.pre_eq_preRow]; exact lifted os started H enc F)
theorem plain (f : FuncId) (fn : Func) (hf : Tryd.pinned.checked.prog.funcNamed "census/censuslaw39.ExplainEnough" = some f) (hfn : Tryd.pinned.checked.prog.funcs[f]? = some fn) :
    false = Tryd.pinned.checked.prog.looks [] ∧ ∀ (j : Nat) t, fn.params[j]? = some t → Tryd.pinned.checked.prog.wantsStandIn t = false := by
  obtain rfl : f = 7 := Option.some.inj ((show Tryd.prog.funcNamed "census/censuslaw39.ExplainEnough" = some 7 by kernel_rfl).symm.trans hf) |>.symm
  obtain rfl : fn = Go.Proofs.Tryd.f7 := (Option.some.inj (Tryd.func7.symm.trans hfn)).symm
  refine ⟨by kernel_rfl, fun j t ht => ?_⟩
  rw [Tryd.params7] at ht
  have hall : (Tryd.checked.prog.funcs[7]?).all (fun g => g.params.toList.all fun t => !(Tryd.checked.prog.wantsStandIn t)) = true := by kernel_rfl
  rw [show Tryd.checked.prog.funcs[7]? = some Go.Proofs.Tryd.f7 from Tryd.func7] at hall
  have h2 : ∀ t ∈ (Go.Proofs.Tryd.f7).params.toList, (!(Tryd.checked.prog.wantsStandIn t)) = true := List.all_eq_true.1 hall
  have hm : t ∈ (Go.Proofs.Tryd.f7).params.toList := by rw [Tryd.params7]; exact Array.mem_toList_iff.2 (Array.mem_of_getElem? ht)
  have h3 : Tryd.checked.prog.wantsStandIn t = false := by simpa using h2 t hm
  exact h3
theorem proved : Rows.ExplainEnoughCardSaid :=
  Claim7.holds_tied_plain_at .later [] _ _ _ _ said (fun _ h => by cases h) (by kernel_rfl) (fun _ h => by cases h) explainEnough_row_tie rfl ⟨rfl, rfl⟩ (by kernel_rfl) rfl plain (by kernel_rfl)
end explainEnough
end Go.Proofs.YtecdhmiamlgibaaDoor
