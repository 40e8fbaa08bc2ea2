/- TraceLong: the limits; it has no arguments; no condition. -/
import Derived.Test.YthdjgcjpolpgdaaLp22
import Derived.Test.YthdjgcjpolpgdaaWa
namespace Go.Proofs.Ythdjgcjpolpgdaa
set_option linter.unusedVariables false
set_option linter.unusedSimpArgs false
set_option linter.unusedSectionVars false
open Go.RowKit Go.WideShapes Go.ChangeShapes Go.ChangeAt
attribute [local simp] List.getD_cons_zero List.getD_cons_succ List.getD_nil undef gvars runL runE effA stepA dstOk wantA core lk st dl AS.ev AS.evs AS.put AS.upd updO updI nxt cPick cAlloc cBox cBuild cBuildS cLoad cStore cNil plainOf cBin cNilS isNilS nilA cUn cConvX cConvB cConv bytesOf rowB cMake cSlice slA idxA cFA cF cIA cIX cIS cI cExt cLen cApp cMM cFun cCall lenA lenM isNilM nilM cNilM cMakeM hintB cMapK cLook foundR lookR cUpd putM cDel delM findA isKeyB Instr.sameNow AS.entry AS.bound AS.callee sc1 sc2 ixOk ldA AV.flat AV.cell AV.cells Value.oneCell' fillA spl chunk zeros AS.parts AS.rows AS.shut AS.shut1 AS.shut2 AS.shutL AS.shutM AV.ids idsL idsLL eqAll bndA AV.scalar AV.scalar1 AV.isV Ef.app Ef.pk ptOf pntO wrO wr
attribute [-simp] List.getD_eq_getElem?_getD
set_option maxRecDepth 100000
attribute [local simp] AV.ren renL aB aCls
@[simp ↓ high] theorem d_ids_nilR (n : Nat) : idsLL (List.replicate n [AV.v (.slice none 0 0), .v (.slice none 0 0)]) = [] := ids_repl (by simp [idsL, AV.ids]) n
@[simp] theorem toCls_nilR (n : Nat) : toCls (.sl 2 (List.replicate n [AV.v (.slice none 0 0), .v (.slice none 0 0)])) = some (nilL n) := clsOf_rep rfl rfl n
@[simp] theorem toCls_nilS (n : Nat) : toCls (.sl 2 (List.replicate n [AV.v (.slice none 0 0), .v (.slice none 0 0)] ++ [[AV.v (.slice none 0 0), .v (.slice none 0 0)]])) = some (nilL (n + 1)) := by
  show clsOf _ = _
  rw [clsOf_app rfl rfl (clsOf_rep rfl rfl n)]
  unfold nilL
  rw [List.replicate_succ']
@[simp ↓ high] theorem d_take_nilS (n : Nat) : (List.replicate n [AV.v (.slice none 0 0), .v (.slice none 0 0)] ++ [[AV.v (.slice none 0 0), .v (.slice none 0 0)]]).take (n + 1) = List.replicate n [AV.v (.slice none 0 0), .v (.slice none 0 0)] ++ [[AV.v (.slice none 0 0), .v (.slice none 0 0)]] := List.take_of_length_le (by simp)
@[simp ↓ high] theorem d_ids_nilS (n : Nat) : idsLL (List.replicate n [AV.v (.slice none 0 0), .v (.slice none 0 0)] ++ [[AV.v (.slice none 0 0), .v (.slice none 0 0)]]) = [] := by rw [ids_app, d_ids_nilR]; simp [idsLL, idsL, AV.ids]
@[simp ↓ high] theorem d_ids_fullR (m : Nat) : idsLL (List.replicate m [AV.v (.slice none 0 0), aInts (allA 4096)]) = [] := ids_repl (by simp [idsL, AV.ids]) m
@[simp] theorem toCls_fullR (m : Nat) : toCls (.sl 2 (List.replicate m [AV.v (.slice none 0 0), aInts (allA 4096)])) = some (List.replicate m ([], allA 4096)) := clsOf_rep rfl (by simp) m
def badR (m : Nat) : List (List AV) := (List.replicate m [AV.v (.slice none 0 0), aInts (allA 4096)]).set 4999 [.v (.slice none 0 0), .sl 1 [[.v (.int .i64 4096)]]]
@[simp] theorem badR_eq (m : Nat) : (List.replicate m [AV.v (.slice none 0 0), aInts (allA 4096)]).set 4999 [.v (.slice none 0 0), .sl 1 [[.v (.int .i64 4096)]]] = badR m := rfl
@[simp] theorem badR_len (m : Nat) : (badR m).length = m := by unfold badR; rw [List.length_set, List.length_replicate]
@[simp ↓ high] theorem d_take_badR (m : Nat) : (badR m).take m = badR m := List.take_of_length_le (by simp)
theorem idsLL_set : ∀ (ys : List (List AV)) (i : Nat) (r : List AV), idsLL ys = [] → idsL r = [] → idsLL (ys.set i r) = []
  | [], _, _, h, _ => h
  | y :: ys, 0, r, h, hr => by
    simp only [idsLL, List.append_eq_nil_iff] at h
    simp only [List.set_cons_zero, idsLL, hr, h.2, List.append_nil]
  | y :: ys, i + 1, r, h, hr => by
    simp only [idsLL, List.append_eq_nil_iff] at h
    simp only [List.set_cons_succ, idsLL, h.1, idsLL_set ys i r h.2 hr, List.append_nil]
@[simp ↓ high] theorem d_ids_badR (m : Nat) : idsLL (badR m) = [] := idsLL_set _ _ _ (d_ids_fullR m) (by simp [idsL, AV.ids, idsLL])
@[simp] theorem toCls_badR (m : Nat) : toCls (.sl 2 (badR m)) = some (badL m) := clsOf_set rfl rfl 4999 (clsOf_rep rfl (by simp) m)
@[simp ↓ high] theorem d_ids_fR (A : List Int) (m k : Nat) : idsLL (fR A m k) = [] := ids_fR A m k
@[simp ↓ high] theorem d_ren_fR (ρ : Nat → Nat) (A : List Int) (m k : Nat) : renLL ρ (fR A m k) = fR A m k := renLL_pure ρ _ (ids_fR A m k)
@[simp ↓ high] theorem d_ids_zeroB (q : Nat) : idsLL (List.replicate q [AV.v (.int .u8 0)]) = [] := ids_repl (by simp [idsL, AV.ids]) q
@[simp] theorem toB_zeroB (q : Nat) : toB (.sl 1 (List.replicate q [AV.v (.int .u8 0)])) = some (List.replicate q 0) := by
  have : List.replicate q [AV.v (.int .u8 0)] = (List.replicate q (0 : Int)).map fun x => [AV.v (.int .u8 x)] := by rw [List.map_replicate]
  rw [this]; exact toB_sl _
set_option maxHeartbeats 8000000 in
theorem traceLong_p : FnPure Try.prog 11 [] (.v (.bool true)) := by
  obtain ⟨n, hn⟩ : ∃ n : Nat, (n : Int) = 65536 := ⟨65536, rfl⟩
  have c1 : 48 * (n : Int) ≤ 281474976710656 := by omega
  have c2 : (n : Int) ≤ 9223372036854775807 := by omega
  have c3 : (n + 1) * 48 ≤ 140737488355328 := by omega
  have hok : okCl (nilL n) = true := okCl_rep (by omega) rfl rfl
  have hok1 : okCl (nilL (n + 1)) = true := okCl_rep (by omega) rfl rfl
  have e1 := enc_nil hn
  have e2 := enc_nil1 hn
  have d1 := dec_nil hn
  have hb : okB (fullB (nilL n)) = true := fullB_by _
  have hbl : (fullB (nilL n)).length = 131075 := nil_len hn
  have hnl : (nilL n).length = n := List.length_replicate ..
  generalize fullB (nilL n) = b at e1 d1 hb hbl
  obtain ⟨m, hm⟩ : ∃ m : Nat, (m : Int) = 5000 := ⟨5000, rfl⟩
  have c4 : 48 * (m : Int) ≤ 281474976710656 := by omega
  have c5 : (m : Int) ≤ 9223372036854775807 := by omega
  have c6 : (4999 : Int) < (m : Int) := by omega
  have c7 : 4999 < m := by omega
  have hok2 : okCl (List.replicate m ([], allA 4096)) = true := okCl_rep (by omega) rfl okInts_all
  have hok3 : okCl (badL m) = true := okCl_bad hm
  have e3 := enc_full hm
  have e4 := enc_bad hm
  obtain ⟨q, hq⟩ : ∃ q : Nat, (q : Int) = 16777217 := ⟨16777217, rfl⟩
  have c8 : (q : Int) ≤ 281474976710656 := by omega
  have c9 : (q : Int) ≤ 9223372036854775807 := by omega
  have c10 : q ≤ 9223372036854775807 := by omega
  have hob : okB (List.replicate q 0) = true := List.all_eq_true.2 fun x hx => by rw [(List.mem_replicate.1 hx).2]; rfl
  have d2 : decA (List.replicate q 0) = .tup [.v (.slice none 0 0), .v (.int .i64 2)] := dec_big (by rw [List.length_replicate]; have : maxB = 16777216 := rfl; omega)
  have hg2 : (List.replicate m [AV.v (.slice none 0 0), aInts (allA 4096)]).getD 4999 [] = [.v (.slice none 0 0), aInts (allA 4096)] := by simp [List.getD, c7]
  refine fn_sp TT_ok Try.func11 (c := _) rfl (by simp [Try.ntmps11]) (fun B hI0 hro => ?_)
  rw [Try.ntmps11]
  simp only [enumA]
  rw [← hn, ← hm, ← hq]
  have hn2 := Lib.hid hn
  clear hn hm hq
  refine amStr (h := ?_)
  refine amReg PT116_ok (h := ?_)
  refine amStr (h := ?_)
  refine amReg PT116_ok (h := ?_)
  refine amStr (h := ?_)
  refine amReg PT116_ok (h := ?_)
  refine amStr (h := ?_)
  refine amReg PT116_ok (h := ?_)
  refine amStr (h := ?_)
  refine amReg PT116_ok (h := ?_)
  refine amStr (h := ?_)
  refine amReg PT116_ok (h := ?_)
  refine amStr (h := ?_)
  refine amReg PT116_ok (h := ?_)
  refine amStr (h := ?_)
  refine amReg PT116_ok (h := ?_)
  refine amStr (h := ?_)
  refine s_nil 8 50 3 1 (by simp [lk]) (by simp) ?_
  simp only [st]
  refine s_loop (J := fun i : {k : Nat // k ≤ 4096} => ⟨109, [(4, .sl 2 ((nilL n).map fun p => [aInts p.1, aInts p.2])), (5, .v (.int .i64 0)), (7, .v (.int .i64 2)), (8, .ref 50 0 i.1), (44, .v (.int .i64 (i.1 : Int)))], [(50, ⟨3, 1, (allA i.1).map fun x => [.v (.int .i64 x)]⟩)], [50]⟩) (μ := fun i => 4096 - i.1) ⟨0, Nat.zero_le _⟩ ?_ (fun ⟨k, hk⟩ => ?_)
  · have h0 : allA 0 = [] := rfl
    (refine weak_id rfl ?_ ?_ <;> ((try simp only [List.mem_cons, List.not_mem_nil, or_false, forall_eq_or_imp, forall_eq]); (try simp (disch := omega) [i64w, *])))
  dsimp only
  have hA := allA_len k
  have hs := allA_succ k
  have hcap : (k + 1) * 8 ≤ 140737488355328 := by omega
  refine amStr (h := ?_)
  refine amReg PT116_ok (h := ?_)
  refine amStr (h := ?_)
  (focus ((with_reducible refine sp_cond (b := ?_) ?_ (fun hc => ?_) (fun hc => ?_)); rotate_left; (focus (first | rfl | (simp [lk, AS.ev]; rfl))); all_goals (try simp at hc)))
  · have hkk := hc
    clear hc
    refine amGo PT116_ok (h := ?_)
    refine k_lp (⟨k + 1, by omega⟩ : {k : Nat // k ≤ 4096}) (by first | omega | (dsimp only; omega)) ?_
    (refine weak_of (fun q => if q = 50 then 54 else q) ⟨rfl, ?_, ?_, ?_⟩ <;> ((try simp only [List.mem_cons, List.not_mem_nil, or_false, forall_eq_or_imp, forall_eq]); (try simp (disch := omega) [lk, AV.ids, idsL, idsLL, AV.ren, renL, renLL, i64w, *])))
  obtain rfl : k = 4096 := by omega
  clear hc hs hcap
  refine s_weak ⟨109, [(4, .sl 2 ((nilL n).map fun p => [aInts p.1, aInts p.2])), (5, .v (.int .i64 0)), (7, .v (.int .i64 2)), (8, .ref 50 0 (allA 4096).length)], [(50, ⟨3, 1, (allA 4096).map fun x => [.v (.int .i64 x)]⟩)], [50]⟩ ?_ ?_
  · (refine weak_id rfl ?_ ?_ <;> ((try simp only [List.mem_cons, List.not_mem_nil, or_false, forall_eq_or_imp, forall_eq]); (try simp (disch := omega) [i64w, *])))
  clear hA
  refine s_frz (fun q => q == 50) ?_
  (refine s_eq (τ := ?_) ?_ ?_; rotate_left; (focus ((try simp only [AS.frz, List.map_cons, List.map_nil]); (try simp [frzV, frzO, frzC, List.filter]); rfl)))
  refine amStr (h := ?_)
  refine amReg PT116_ok (h := ?_)
  refine amStr (h := ?_)
  refine amReg PT116_ok (h := ?_)
  refine amStr (h := ?_)
  refine s_loop (J := fun i : {k : Nat // k ≤ m} => ⟨109, [(4, .sl 2 ((nilL n).map fun p => [aInts p.1, aInts p.2])), (5, .v (.int .i64 0)), (7, .v (.int .i64 2)), (8, aInts (allA 4096)), (10, .ref 51 0 m), (54, .v (.int .i64 (m : Int))), (55, .v (.int .i64 (i.1 : Int)))], [(51, ⟨27, 2, fR (allA 4096) m i.1⟩)], [51, 50]⟩) (μ := fun i => m - i.1) ⟨0, Nat.zero_le _⟩ ?_ (fun ⟨k, hk⟩ => ?_)
  · have h0 := fR_zero (allA 4096) m
    (refine weak_id rfl ?_ ?_ <;> ((try simp only [List.mem_cons, List.not_mem_nil, or_false, forall_eq_or_imp, forall_eq]); (try simp (disch := omega) [i64w, *])))
  dsimp only
  have hfl := fR_len (allA 4096) hk
  refine amStr (h := ?_)
  refine amReg PT116_ok (h := ?_)
  refine amStr (h := ?_)
  (focus ((with_reducible refine sp_cond (b := ?_) ?_ (fun hc => ?_) (fun hc => ?_)); rotate_left; (focus (first | rfl | (simp [lk, AS.ev]; rfl))); all_goals (try simp at hc)))
  · have hkk := hc
    clear hc
    have hs := fR_set (allA 4096) hkk
    have hg := fR_get (allA 4096) hkk
    refine amGo PT116_ok (h := ?_)
    refine k_lp (⟨k + 1, by omega⟩ : {k : Nat // k ≤ m}) (by first | omega | (dsimp only; omega)) ?_
    (refine weak_id rfl ?_ ?_ <;> ((try simp only [List.mem_cons, List.not_mem_nil, or_false, forall_eq_or_imp, forall_eq]); (try simp (disch := omega) [i64w, *])))
  obtain rfl : k = m := by omega
  clear hc hfl
  rw [fR_all]
  refine amStr (h := ?_)
  refine amReg PT116_ok (h := ?_)
  refine amStr (h := ?_)
  refine s_regionL ?_
  ((iterate 1 (((with_reducible refine spl_step TT_ok PT116_ok (id := 0) (σ' := ?_) ?_ ?_); rotate_left; (focus (simp [*]; rfl))))))
  (((with_reducible refine spl_step TT_ok PT116_ok (id := 61) (σ' := ?_) ?_ ?_); rotate_left; (focus (simp [*]; rfl))))
  refine spl_frz (fun q => q == 61) ?_
  (refine spl_eq (τ := ?_) ?_ ?_; rotate_left; (focus ((try simp only [AS.frz, List.map_cons, List.map_nil]); (try simp [frzV, frzO, frzC, List.filter]); rfl)))
  ((iterate 3 (((with_reducible refine spl_step TT_ok PT116_ok (id := 0) (σ' := ?_) ?_ ?_); rotate_left; (focus (simp [*]; rfl))))))
  refine spl_nil ?_
  refine amStr (h := ?_)
  refine amReg PT116_ok (h := ?_)
  refine amStr (h := ?_)
  refine amReg PT116_ok (h := ?_)
  refine amStr (h := ?_)
  refine amGo PT116_ok (h := ?_)
  ((refine post_ret (av := ?_) (by first | exact .inl rfl | exact .inr rfl) (show (Try.f11).results.toList = _ from by rw [Try.results11]) ?_ ?_); rotate_left; (focus (simp [retA, retL, ret1, lk, st, ldA, AV.cell]; rfl)); (try simp [*]))
namespace traceLong
set_option maxRecDepth 100000 in
theorem lifted (os : Os) (started : os.Started) (H : Type) (enc : TypeId × Value → H) :
    ReturnsInHanded {} Try.checked os 11 .any (Rows.traceLongSpec.pre6 enc Try.prog Go.Proofs.Try.f11 Rows.traceLongRow.domain false) (Rows.traceLongSpec.post enc Try.prog Go.Proofs.Try.f11 false true false false) := by
  refine returnsInHanded_of_change (C := Try.checked) (by kernel_rfl) started (by kernel_rfl) Try.func11
    (ChangeSpec.witness6 (enc := enc) (C := Try.checked) false ⟨#[], #[], []⟩ 8 (by kernel_rfl) (by kernel_rfl) (by kernel_rfl) (by kernel_rfl)) ?_
  intro W base args ds gs before hval0 hW hcnd _
  have hval : ∀ (j : Nat) t v, (Go.Proofs.Try.f11).params[j]? = some t → args[j]? = some v → Value.okWide Try.prog W .any base t v := hval0
  have hW2 := hW
  obtain ⟨p, q, hA0, hV, _, _, _⟩ := hW
  have hA : DataW.TrodAll enc Try.prog W 0 (fun _ => true) true (Go.Proofs.Try.f11).params.toList args.toList ds p := hA0
  rw [Try.params11] at hA hval
  clear hA0 hval0 hcnd
  obtain ⟨rfl, _⟩ := trodVars_none hV
  obtain ⟨rfl, rfl, rfl⟩ := trodAll_none hA
  refine law_of_pure (glob0 _) (avs := []) (by kernel_rfl) hW2 rfl (rec_ok (by kernel_rfl)) (tb := 4) rfl Try.underlying4 rfl rfl rfl rfl (fun i hi => ?_) (traceLong_p)
  simp at hi
theorem proved : Rows.TraceLongSaid :=
  OpenClaim.holds_of_wide 11 Go.Proofs.Try.f11 rfl rfl rfl rfl rfl rfl rfl ⟨rfl, rfl, rfl, rfl, rfl⟩ rfl rfl rfl rfl rfl (by kernel_rfl) Try.func11 (by kernel_rfl)
    (of_decide_eq_true (by kernel_rfl)) (by unfold Func.isWrapper; first | (rw [if_pos (by decide +kernel)]; kernel_rfl) | (rw [if_neg (by decide +kernel)]; exact ⟨rfl, rfl⟩))
    (fun os started H enc _ => lifted os started H enc)
end traceLong
end Go.Proofs.Ythdjgcjpolpgdaa
