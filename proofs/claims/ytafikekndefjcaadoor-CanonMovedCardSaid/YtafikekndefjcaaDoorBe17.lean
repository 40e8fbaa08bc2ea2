/- Contract of bytes.Equal, by the abstract machine; no condition. -/
import Derived.Test.YtafikekndefjcaaDoorLt
import Derived.Test.YtafikekndefjcaaDoorWa
namespace Go.Proofs.YtafikekndefjcaaDoor
set_option linter.unusedVariables false
set_option linter.unusedSimpArgs false
set_option linter.unusedSectionVars false
open Go.RowKit
attribute [local simp] List.getD_cons_zero List.getD_cons_succ List.getD_nil undef gvars runL runE effA stepA dstOk wantA core lk st dl AS.ev AS.evs AS.put AS.upd updO updI nxt cPick cAlloc cBox cBuild cBuildS cLoad cStore cNil plainOf cBin cNilS isNilS nilA cUn cConvX cConvB cConv bytesOf rowB cMake cSlice slA idxA cFA cF cIA cIX cIS cI cExt cLen cApp cMM cFun cCall lenA lenM isNilM nilM cNilM cMakeM hintB cMapK cLook foundR lookR cUpd putM cDel delM findA isKeyB Instr.sameNow AS.entry AS.bound AS.callee sc1 sc2 ixOk ldA AV.flat AV.cell AV.cells Value.oneCell' fillA spl chunk zeros AS.parts AS.rows AS.shut AS.shut1 AS.shut2 AS.shutL AS.shutM AV.ids idsL idsLL eqAll bndA AV.scalar AV.scalar1 AV.isV Ef.app Ef.pk ptOf pntO wrO wr
attribute [-simp] List.getD_eq_getElem?_getD
set_option maxRecDepth 100000
def aB (xs : List Int) : AV := .sl 1 (xs.map fun x => [.v (.int .u8 x)])
def toB : AV → Option (List Int)
  | .sl 1 ys => bytesOf ys
  | .v (.slice none 0 0) => some []
  | _ => none
@[simp] theorem bytesOf_map : ∀ xs : List Int, bytesOf (xs.map fun x => [.v (.int .u8 x)]) = some xs
  | [] => rfl
  | x :: xs => by simp [bytesOf, rowB, bytesOf_map xs]
@[simp] theorem toB_aB (xs : List Int) : toB (aB xs) = some xs := bytesOf_map xs
@[simp] theorem toB_nil : toB (.v (.slice none 0 0)) = some [] := rfl
theorem ids_bytes : ∀ xs : List Int, idsLL (xs.map fun x => [AV.v (.int .u8 x)]) = []
  | [] => rfl
  | x :: xs => by simp [idsLL, idsL, AV.ids, ids_bytes xs]
@[simp ↓ high] theorem d_ids_aB (xs : List Int) : (aB xs).ids = [] := ids_bytes xs
theorem bytesOf_inv : ∀ {ys : List (List AV)} {xs : List Int}, bytesOf ys = some xs → ys = xs.map fun x => [.v (.int .u8 x)]
  | [], xs, h => by simp only [bytesOf, Option.some.injEq] at h; subst h; rfl
  | r :: rs, xs, h => by
    simp only [bytesOf] at h
    split at h
    · rename_i x l h1 h2
      cases h
      rw [rowB_inv h1, List.map_cons, ← bytesOf_inv h2]
    · cases h
theorem cov_B {a : AV} {xs : List Int} (h : toB a = some xs) : Cov a (aB xs) := fun S v hv => by
  unfold toB at h
  split at h
  · rw [bytesOf_inv h] at hv; exact hv
  · cases h; rw [hv.v_eq]; exact rv_nil 1
  · cases h
def okB (xs : List Int) : Bool := xs.all fun x => decide (0 ≤ x) && decide (x < 256)
theorem strOf_inj {xs ys : List Int} (hx : okB xs = true) (hy : okB ys = true) (h : strOfNums xs = strOfNums ys) : xs = ys := by
  unfold strOfNums at h
  have h1 : xs.map (fun n => UInt8.ofNat n.toNat) = ys.map fun n => UInt8.ofNat n.toNat := by
    simpa using h
  have key : ∀ (xs ys : List Int), okB xs = true → okB ys = true → xs.map (fun n => UInt8.ofNat n.toNat) = ys.map (fun n => UInt8.ofNat n.toNat) → xs = ys := by
    intro xs
    induction xs with
    | nil => intro ys _ _ h; cases ys with
      | nil => rfl
      | cons _ _ => simp at h
    | cons x xs ih => intro ys h2 h3 h; cases ys with
      | nil => simp at h
      | cons y ys =>
        rw [List.map_cons, List.map_cons, List.cons.injEq] at h
        simp only [okB, List.all_cons, Bool.and_eq_true, decide_eq_true_eq] at h2 h3
        have e := congrArg UInt8.toNat h.1
        rw [UInt8.toNat_ofNat', UInt8.toNat_ofNat'] at e
        rw [ih ys h2.2 h3.2 h.2]
        congr 1
        omega
  exact key xs ys hx hy h1
theorem bytesEq_p (xs ys : List Int) (hx : okB xs = true) (hy : okB ys = true) : FnPure Tryd.prog 21 [aB xs, aB ys] (.v (.bool (decide (xs = ys)))) := by
  have h1 := bytesOf_map xs
  have h2 := bytesOf_map ys
  have hd : ((strOfNums xs).data == (strOfNums ys).data) = decide (xs = ys) := by
    by_cases e : xs = ys
    · subst e; simp
    · rw [decide_eq_false e, beq_eq_false_iff_ne]; exact fun hh => e (strOf_inj hx hy (by unfold strOfNums at hh ⊢; rw [ByteArray.mk.injEq]; exact hh))
  unfold aB
  refine fn_sp TT_ok Tryd.func21 (c := _) rfl (by simp [Tryd.ntmps21]) (fun B hI0 hro => ?_)
  rw [Tryd.ntmps21]
  simp only [enumA]
  refine amGo PT16_ok (h := ?_)
  ((refine post_ret (av := ?_) (by first | exact .inl rfl | exact .inr rfl) (show (Tryd.f21).results.toList = _ from by rw [Tryd.results21]) ?_ ?_); rotate_left; (focus (simp [retA, retL, ret1, lk, st, ldA, AV.cell]; rfl)); (try simp [*]))

end Go.Proofs.YtafikekndefjcaaDoor
