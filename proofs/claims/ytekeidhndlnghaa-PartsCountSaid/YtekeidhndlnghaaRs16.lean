/- censusref16.Split; no condition. -/
import Derived.Test.YtekeidhndlnghaaTr16
import Derived.Test.YtekeidhndlnghaaWa
import Derived.Test.YtekeidhndlnghaaRaG
import Derived.Test.YtekeidhndlnghaaSqG
import Derived.Test.YtekeidhndlnghaaGv16
import Derived.Test.YtekeidhndlnghaaCxG
import Derived.Test.YtekeidhndlnghaaAm23
namespace Go.Proofs.Ytekeidhndlnghaa
set_option linter.unusedVariables false
set_option linter.unusedSimpArgs false
set_option linter.unusedSectionVars false
open Go.RowKit
attribute [local simp] List.getD_cons_zero List.getD_cons_succ List.getD_nil undef gvars runL runE effA stepA dstOk wantA core lk st dl AS.ev AS.evs AS.put AS.upd updO updI nxt cPick cAlloc cBox cBuild cBuildS cLoad cStore cNil plainOf cBin cNilS isNilS nilA cUn cConvX cConvB cConv bytesOf rowB cMake cSlice slA idxA cFA cF cIA cIX cIS cI cExt cLen cApp cMM cFun cCall lenA lenM isNilM nilM cNilM cMakeM hintB cMapK cLook foundR lookR cUpd putM cDel delM findA isKeyB Instr.sameNow AS.entry AS.bound AS.callee sc1 sc2 ixOk ldA AV.flat AV.cell AV.cells Value.oneCell' fillA spl chunk zeros AS.parts AS.rows AS.shut AS.shut1 AS.shut2 AS.shutL AS.shutM AV.ids idsL idsLL eqAll bndA AV.scalar AV.scalar1 AV.isV Ef.app Ef.pk ptOf pntO wrO wr
attribute [-simp] List.getD_eq_getElem?_getD
set_option maxRecDepth 100000
def l93 : List (FuncId × (List AV → Option (AV × Bool))) :=
  (34, g_r6Valid) :: (22, g_r6Left) :: (36, g_r6Grow) :: (35, g_r6Vars) :: (37, g_r6Join) :: (38, g_r6Least) :: (20, g_r4In) :: (39, g_r6With) :: l1
theorem l93_ok : ∀ p ∈ l93, EntOk Try.prog p.1 p.2 := ent_cons e_r6Valid (ent_cons e_r6Left (ent_cons e_r6Grow (ent_cons e_r6Vars (ent_cons e_r6Join (ent_cons e_r6Least (ent_cons e_r4In (ent_cons e_r6With (l1_ok))))))))
def PT93 : PTab := tab l93
theorem PT93_ok : PTok Try.prog PT93 := tab_ok l93_ok
@[simp] theorem PT93_r6Valid : PT93 34 = g_r6Valid := rfl
@[simp] theorem PT93_r6Left : PT93 22 = g_r6Left := rfl
@[simp] theorem PT93_r6Grow : PT93 36 = g_r6Grow := rfl
@[simp] theorem PT93_r6Vars : PT93 35 = g_r6Vars := rfl
@[simp] theorem PT93_r6Join : PT93 37 = g_r6Join := rfl
@[simp] theorem PT93_r6Least : PT93 38 = g_r6Least := rfl
@[simp] theorem PT93_r4In : PT93 20 = g_r4In := rfl
@[simp] theorem PT93_r6With : PT93 39 = g_r6With := rfl
attribute [local simp] AV.ren renL
def rSplitA (N : Int) (L : List (List Int)) (ts : List Int) : AV := if validT N L ts = true then .tup [aParts (refParts L ts L.length).1, aSet (freeTo (refParts L ts L.length).2 N.toNat), .v (.int .i64 0)] else splE
theorem rSplit_bad (N : Int) (L : List (List Int)) (ts : List Int) (hN : okI N = true) (hL : okRows L = true) (ht : okInts ts = true) (hv : validT N L ts = false) : FnPure Try.prog 13 [aTh N L, aInts ts] splE := by
  unfold aTh splE
  refine fn_sp TT_ok Try.func13 (c := _) rfl (by simp [Try.ntmps13]) (fun B hI0 hro => ?_)
  rw [Try.ntmps13]
  simp only [enumA]
  refine amGo PT93_ok (h := ?_)
  ((refine post_ret (av := ?_) (by first | exact .inl rfl | exact .inr rfl) (show (Try.f13).results.toList = _ from by rw [Try.results13]) ?_ ?_); rotate_left; (focus (simp [retA, retL, ret1, lk, st, ldA, AV.cell]; rfl)); (try simp [*]))
theorem growIdx_self (L : List (List Int)) (ts : List Int) (f : Nat) (S : BitVec 128) (hf : f < L.length) (hl : leftL (L.getD f []) ts = true) : 0 < (growIdx L ts f S).length := by
  unfold growIdx
  rw [List.length_map, List.length_pos_iff_exists_mem]
  exact ⟨f, by rw [List.mem_filter]; simp only [List.mem_range]; exact ⟨hf, by simp only [hl]; simp⟩⟩
theorem growIdx_ok (L : List (List Int)) (ts : List Int) (f : Nat) (S : BitVec 128) (h4 : L.length ≤ 4096) : okInts (growIdx L ts f S) = true := by
  simp only [okInts, Bool.and_eq_true, List.all_eq_true, decide_eq_true_eq]
  unfold growIdx
  refine ⟨fun x hx => ?_, ?_⟩
  · obtain ⟨j, hj, rfl⟩ := List.mem_map.1 hx
    have := List.mem_range.1 (List.mem_filter.1 hj).1
    exact okI_iff.2 ⟨by omega, by omega⟩
  · rw [List.length_map]
    have := List.length_filter_le (fun i => leftL (L.getD i []) ts && (decide (i = f) || meetB (litVars (restL (L.getD i []) ts)) S)) (List.range L.length)
    rw [List.length_range] at this
    omega
def insAt (l : List PrtL) (p : PrtL) (m : Nat) : List PrtL := l.take m ++ p :: l.drop m
theorem insAt_len (l : List PrtL) (p : PrtL) {m : Nat} (h : m ≤ l.length) : (insAt l p m).length = l.length + 1 := by
  unfold insAt; simp; omega
theorem insAt_all (l : List PrtL) (p : PrtL) : insAt l p l.length = l ++ [p] := by simp [insAt]
theorem insAt_p (l : List PrtL) (p : PrtL) {m : Nat} (h : m ≤ l.length) : (insAt l p m).getD m (0#128, []) = p := by
  unfold insAt
  have e : (l.take m).length = m := by rw [List.length_take]; omega
  simp [List.getD, List.getElem?_append_right, e]
theorem insAt_a (l : List PrtL) (p : PrtL) {m : Nat} (h : m + 1 ≤ l.length) : (insAt l p (m + 1)).getD m (0#128, []) = l.getD m (0#128, []) := by
  unfold insAt
  have e : (l.take (m + 1)).length = m + 1 := by rw [List.length_take]; omega
  simp [List.getD, List.getElem?_append_left (show m < (l.take (m + 1)).length by omega), List.getElem?_take]
theorem insAt_swap (l : List PrtL) (p : PrtL) {m : Nat} (h : m + 1 ≤ l.length) : ((insAt l p (m + 1)).set (m + 1) (l.getD m (0#128, []))).set m p = insAt l p m := by
  have hm : m < l.length := by omega
  have e : (l.take m).length = m := by rw [List.length_take]; omega
  have e2 : l.take (m + 1) = l.take m ++ [l.getD m (0#128, [])] := by
    rw [List.take_succ_eq_append_getElem hm]; simp [List.getD, hm]
  have e3 : l.drop m = l.getD m (0#128, []) :: l.drop (m + 1) := by
    rw [List.drop_eq_getElem_cons hm]; simp [List.getD, hm]
  unfold insAt
  rw [e2, e3]
  generalize l.getD m (0#128, []) = a
  generalize l.drop (m + 1) = B
  generalize l.take m = A at e
  subst e
  simp [List.set_append]
theorem insEnd_split (l : List PrtL) (p : PrtL) {m : Nat} (h : m + 1 ≤ l.length) (hlt : leastV p.1 < leastV (l.getD m (0#128, [])).1) : insEnd (l.take (m + 1)) p ++ l.drop (m + 1) = insEnd (l.take m) p ++ l.drop m := by
  have hm : m < l.length := by omega
  have e2 : l.take (m + 1) = l.take m ++ [l.getD m (0#128, [])] := by
    rw [List.take_succ_eq_append_getElem hm]; simp [List.getD, hm]
  have e3 : l.drop m = l.getD m (0#128, []) :: l.drop (m + 1) := by
    rw [List.drop_eq_getElem_cons hm]; simp [List.getD, hm]
  rw [e2, e3, insEnd_lt hlt]; simp
theorem insEnd_stop (l : List PrtL) (p : PrtL) {m : Nat} (h : m + 1 ≤ l.length) (hlt : ¬ leastV p.1 < leastV (l.getD m (0#128, [])).1) : insEnd (l.take (m + 1)) p ++ l.drop (m + 1) = insAt l p (m + 1) := by
  have hm : m < l.length := by omega
  have e2 : l.take (m + 1) = l.take m ++ [l.getD m (0#128, [])] := by
    rw [List.take_succ_eq_append_getElem hm]; simp [List.getD, hm]
  unfold insAt
  rw [e2, insEnd_ge hlt]; simp
set_option maxHeartbeats 4000000 in
theorem rSplit_ok (N : Int) (L : List (List Int)) (ts : List Int) (hN : okI N = true) (hL : okRows L = true) (ht : okInts ts = true) (hv : validT N L ts = true) : FnPure Try.prog 13 [aTh N L, aInts ts] (.tup [aParts (refParts L ts L.length).1, aSet (freeTo (refParts L ts L.length).2 N.toNat), .v (.int .i64 0)]) := by
  have hz := valid_check hv
  obtain ⟨n0, n1, l4, hl3⟩ := checkT_ok hz
  have htv : posL ts = true := posL_iff.2 fun y hy => by
    unfold validT at hv
    simp only [Bool.and_eq_true, List.all_eq_true] at hv
    have := hv.1.2 y hy
    simp only [litOk, Bool.and_eq_true, decide_eq_true_eq] at this
    omega
  have hLl : goodB N L = true := goodB_iff.2 fun c hc => (hl3 c hc).2
  clear hz hl3
  unfold aTh
  refine fn_sp TT_ok Try.func13 (c := _) rfl (by simp [Try.ntmps13]) (fun B hI0 hro => ?_)
  rw [Try.ntmps13]
  simp only [enumA]
  have hsv : aSet (litVars ts) = .agg [.v (.int .u64 ((lo (litVars ts)).toNat : Int)), .v (.int .u64 ((hi (litVars ts)).toNat : Int))] := rfl
  refine amStr (h := ?_)
  refine amReg PT93_ok (h := ?_)
  refine amStr (h := ?_)
  refine amReg PT93_ok (h := ?_)
  refine amStr (h := ?_)
  refine amReg PT93_ok (h := ?_)
  refine amStr (h := ?_)
  refine amReg PT93_ok (h := ?_)
  refine amStr (h := ?_)
  refine amReg PT93_ok (h := ?_)
  clear hsv
  refine s_nil 7 60 56 3 (by simp [lk]) (by simp) ?_
  simp only [st]
  refine amStr (h := ?_)
  refine s_loop (J := fun i : {k : Nat // k ≤ L.length} => ⟨108, [(7, .ref 60 0 (refParts L ts i.1).1.length), (1, aInts ts), (2, .ptr 0 0 0), (4, .v (.slice none 0 0)), (5, .ptr 2 0 0), (6, .v (.int .i64 0)), (8, .ptr 5 0 0), (9, .v (.int .i64 (i.1 : Int)))], [(60, ⟨56, 3, (refParts L ts i.1).1.map partRow⟩), (5, ⟨31, 2, [[.v (.int .u64 ((lo (refParts L ts i.1).2).toNat : Int)), .v (.int .u64 ((hi (refParts L ts i.1).2).toNat : Int))]]⟩), (0, ⟨24, 2, [[.v (.int .i64 N), aRows L]]⟩), (2, ⟨31, 2, [[.v (.int .u64 0), .v (.int .u64 0)]]⟩)], [60, 5, 2, 0]⟩) (μ := fun i => L.length - i.1) ⟨0, Nat.zero_le _⟩ ?_ (fun ⟨i, hie⟩ => ?_)
  · have h0 : refParts L ts 0 = ([], litVars ts) := rfl
    (refine weak_id rfl ?_ ?_ <;> ((try simp only [List.mem_cons, List.not_mem_nil, or_false, forall_eq_or_imp, forall_eq]); (try simp (disch := omega) [i64w, *])))
  dsimp only
  have hlen := refParts_len L ts i
  have hsuc := refParts_succ L ts i
  obtain ⟨old, hold⟩ : ∃ old, (refParts L ts i).1 = old := ⟨_, rfl⟩
  obtain ⟨us, hus⟩ : ∃ us, (refParts L ts i).2 = us := ⟨_, rfl⟩
  have hst : refParts L ts i = (old, us) := by rw [← hold, ← hus]
  rw [hold] at hlen
  rw [hold, hus]
  rw [hst] at hsuc
  have hst2 := Lib.hid hst
  clear hst hold hus
  have hids := idsLL_parts old
  have hwi : IntKind.i64.wrap ((i : Int) + 1) = (i : Int) + 1 := i64s i (by omega)
  refine amStr (h := ?_)
  refine amReg PT93_ok (h := ?_)
  refine amStr (h := ?_)
  (focus ((with_reducible refine sp_cond (b := ?_) ?_ (fun hc => ?_) (fun hc => ?_)); rotate_left; (focus (first | rfl | (simp [lk, AS.ev]; rfl))); all_goals (try simp at hc)))
  · have hii := hc
    clear hc
    have hci := okRows_at hL i
    have hi0 : okI (i : Int) = true := okI_iff.2 ⟨by omega, by omega⟩
    cases hl : leftL (L.getD i []) ts
    · have hno : refParts L ts (i + 1) = (old, us) := by rw [hsuc]; unfold refStep refHead; rw [hl]; rfl
      clear hsuc
      refine amGo PT93_ok (h := ?_)
      refine k_lp (⟨i + 1, by omega⟩ : {k : Nat // k ≤ L.length}) (by first | omega | (dsimp only; omega)) ?_
      dsimp only
      rw [hno]
      (refine weak_id rfl ?_ ?_ <;> ((try simp only [List.mem_cons, List.not_mem_nil, or_false, forall_eq_or_imp, forall_eq]); (try simp (disch := omega) [i64w, *])))
    · have hgs := growIdx_self L ts i (growSet L ts (litVars (restL (L.getD i []) ts))) hii hl
      have hrp : refPart L ts i = (growSet L ts (litVars (restL (L.getD i []) ts)), growIdx L ts i (growSet L ts (litVars (restL (L.getD i []) ts)))) := rfl
      have hgi := growIdx_ok L ts i (growSet L ts (litVars (restL (L.getD i []) ts))) l4
      obtain ⟨S, hS⟩ : ∃ S, growSet L ts (litVars (restL (L.getD i []) ts)) = S := ⟨_, rfl⟩
      rw [hS] at hgs hrp hgi
      obtain ⟨I, hI⟩ : ∃ I, growIdx L ts i S = I := ⟨_, rfl⟩
      rw [hI] at hgs hrp hgi
      have hap : aPart S I = .agg [.v (.int .u64 ((lo S).toNat : Int)), .v (.int .u64 ((hi S).toNat : Int)), aInts I] := rfl
      have hrh : refHead L ts i = decide (I.getD 0 0 = (i : Int)) := by unfold refHead; rw [hl, hrp]; rfl
      obtain ⟨g, hg⟩ : ∃ g, I.getD 0 0 = g := ⟨_, rfl⟩
      rw [hg] at hrh
      by_cases hgi2 : g = (i : Int)
      · have hyes : refParts L ts (i + 1) = (insEnd old (S, I), us ||| S) := by rw [hsuc]; unfold refStep; rw [hrh, if_pos (by simpa using hgi2), hrp]
        clear hsuc hrh
        have hsv : aSet (us ||| S) = .agg [.v (.int .u64 ((lo (us ||| S)).toNat : Int)), .v (.int .u64 ((hi (us ||| S)).toNat : Int))] := rfl
        have c1 : (old.length + 1) * 40 ≤ 140737488355328 := by omega
        have hwl : IntKind.i64.wrap (old.length : Int) = (old.length : Int) := i64n old.length (by omega)
        refine amGo PT93_ok (h := ?_)
        have hia := insAt_all old (S, I)
        refine s_loop (J := fun q : {m : Nat // m ≤ old.length ∧ insEnd (old.take m) (S, I) ++ old.drop m = insEnd old (S, I)} => ⟨108, [(7, .ref 69 0 (old.length + 1)), (1, aInts ts), (2, .ptr 0 0 0), (4, .v (.slice none 0 0)), (5, .ptr 2 0 0), (6, .v (.int .i64 0)), (8, .ptr 5 0 0), (9, .v (.int .i64 (i : Int))), (11, .v (.int .i64 (q.1 : Int)))], [(69, ⟨56, 3, (insAt old (S, I) q.1).map partRow⟩), (5, ⟨31, 2, [[.v (.int .u64 ((lo (us ||| S)).toNat : Int)), .v (.int .u64 ((hi (us ||| S)).toNat : Int))]]⟩), (0, ⟨24, 2, [[.v (.int .i64 N), aRows L]]⟩), (2, ⟨31, 2, [[.v (.int .u64 0), .v (.int .u64 0)]]⟩)], [69, 5, 2, 0]⟩) (μ := fun q => q.1) ⟨old.length, Nat.le_refl _, by simp⟩ ?_ (fun ⟨m, hm, hins⟩ => ?_)
        · (refine weak_id rfl ?_ ?_ <;> ((try simp only [List.mem_cons, List.not_mem_nil, or_false, forall_eq_or_imp, forall_eq]); (try simp (disch := omega) [i64w, *])))
          exact ⟨rfl, fun q hq => by simp [partRow, idsL, AV.ids] at hq⟩
        dsimp only
        have hzl := insAt_len old (S, I) hm
        have hzi := idsLL_parts (insAt old (S, I) m)
        rcases m with _ | m
        · have hfin : insAt old (S, I) 0 = insEnd old (S, I) := by rw [← hins]; rfl
          rw [hfin] at hzl hzi ⊢
          have hll := insEnd_len old (S, I)
          refine amGo PT93_ok (h := ?_)
          refine k_lp (⟨i + 1, by omega⟩ : {k : Nat // k ≤ L.length}) (by first | omega | (dsimp only; omega)) ?_
          dsimp only
          rw [hyes]
          (refine weak_of (fun q => if q = 60 then 69 else q) ⟨rfl, ?_, ?_, ?_⟩ <;> ((try simp only [List.mem_cons, List.not_mem_nil, or_false, forall_eq_or_imp, forall_eq]); (try simp (disch := omega) [lk, AV.ids, idsL, idsLL, AV.ren, renL, renLL, i64w, *])))
          exact (renLL_pure _ _ (idsLL_parts _)).symm
        · have hr1 := parts_row (l := insAt old (S, I) (m + 1)) (k := m + 1) (by omega)
          have hr2 := parts_row (l := insAt old (S, I) (m + 1)) (k := m) (by omega)
          rw [insAt_p old (S, I) hm] at hr1
          rw [insAt_a old (S, I) hm] at hr2
          have hsw := insAt_swap old (S, I) hm
          have hsp := insEnd_split old (S, I) hm
          have hsp2 := insEnd_stop old (S, I) hm
          dsimp only at hr1
          obtain ⟨A, hA⟩ : ∃ A, old.getD m (0#128, []) = A := ⟨_, rfl⟩
          rw [hA] at hr2 hsw hsp hsp2
          obtain ⟨aS, aI⟩ := A
          dsimp only at hr2
          have hwm : IntKind.i64.wrap (m : Int) = (m : Int) := i64n m (by omega)
          have hm1 : m < old.length := hm
          have hm2 : m ≤ old.length := by omega
          have hm3 : (m : Int) < (old.length : Int) + 1 := by omega
          have hm4 : m < old.length + 1 := by omega
          by_cases hlt : leastV S < leastV aS
          · have hnx : insEnd (old.take m) (S, I) ++ old.drop m = insEnd old (S, I) := by rw [← hins]; exact (hsp hlt).symm
            have hset : (((insAt old (S, I) (m + 1)).map partRow).set (m + 1) [.v (.int .u64 ((lo aS).toNat : Int)), .v (.int .u64 ((hi aS).toNat : Int)), aInts aI]).set m [.v (.int .u64 ((lo S).toNat : Int)), .v (.int .u64 ((hi S).toNat : Int)), aInts I] = (insAt old (S, I) m).map partRow := by
              rw [← hsw, List.map_set, List.map_set]; rfl
            clear hsp hsp2 hsw hA
            obtain ⟨Z, hZ⟩ : ∃ Z, insAt old (S, I) (m + 1) = Z := ⟨_, rfl⟩
            rw [hZ] at hzl hzi hr1 hr2 hset
            rw [hZ]
            clear hZ hia
            refine amStr (h := ?_)
            refine amDrw PT93_ok (h := ?_)
            refine amStr (h := ?_)
            (focus ((with_reducible refine s_draw2 (q := ?_) (es := ?_) (σ' := ?_) prog_mixed TT_ok PT93_ok ?_ ?_ ?_ ?_); rotate_left 3; (focus (first | (simp; exact Eq.refl _) | exact Eq.refl _)); (focus ((repeat (((with_reducible refine runE_cons (e := ?_) (σ1 := ?_) (es := ?_) ?_ ?_ ?_); rotate_left 3; (focus (simp [*]; exact Eq.refl _)); (focus (simp; exact Eq.refl _))))); (exact runE_nil))); (focus (refine ordOk_skip [(15, 17)] (by kernel_rfl) (fun p hp => ?_); obtain rfl : p = (15, 17) := (by simpa using hp); simp only [List.getD_cons_zero, List.getD_cons_succ]; simp [free, Ef.keys, Ef.pk, dis, looksO, sepE, fpA, lightS, light, fpF, isFn, Op.operands]))))
            refine amGo PT93_ok (h := ?_)
            refine k_lp (⟨m, by omega, hnx⟩ : {m : Nat // m ≤ old.length ∧ insEnd (old.take m) (S, I) ++ old.drop m = insEnd old (S, I)}) (by first | omega | (dsimp only; omega)) ?_
            dsimp only
            rw [← hset]
            (refine weak_id rfl ?_ ?_ <;> ((try simp only [List.mem_cons, List.not_mem_nil, or_false, forall_eq_or_imp, forall_eq]); (try simp (disch := omega) [i64w, *])))
            have hgm : ∀ (X : List (List AV)) (r : List AV), (X.set (m + 1) r).getD m [] = X.getD m [] := fun X r => by simp [List.getD, List.getElem?_set]
            refine ⟨?_, fun q hq => by rw [idsLL_parts] at hq; cases hq⟩
            rw [hgm, hr2]
            exact hset
          · have hnx : insAt old (S, I) (m + 1) = insEnd old (S, I) := by rw [← hins]; exact (hsp2 hlt).symm
            clear hsp hsp2 hsw hA
            rw [hnx] at hzl hzi hr1 hr2
            rw [hnx]
            have hll := insEnd_len old (S, I)
            clear hia
            refine amStr (h := ?_)
            refine amDrw PT93_ok (h := ?_)
            refine amGo PT93_ok (h := ?_)
            refine k_lp (⟨i + 1, by omega⟩ : {k : Nat // k ≤ L.length}) (by first | omega | (dsimp only; omega)) ?_
            dsimp only
            rw [hyes]
            (refine weak_of (fun q => if q = 60 then 69 else q) ⟨rfl, ?_, ?_, ?_⟩ <;> ((try simp only [List.mem_cons, List.not_mem_nil, or_false, forall_eq_or_imp, forall_eq]); (try simp (disch := omega) [lk, AV.ids, idsL, idsLL, AV.ren, renL, renLL, i64w, *])))
            exact (renLL_pure _ _ (idsLL_parts _)).symm
      · have hno : refParts L ts (i + 1) = (old, us) := by rw [hsuc]; unfold refStep; rw [hrh, if_neg (by simpa using hgi2)]
        clear hsuc hrh hrp
        refine amGo PT93_ok (h := ?_)
        refine k_lp (⟨i + 1, by omega⟩ : {k : Nat // k ≤ L.length}) (by first | omega | (dsimp only; omega)) ?_
        dsimp only
        rw [hno]
        (refine weak_id rfl ?_ ?_ <;> ((try simp only [List.mem_cons, List.not_mem_nil, or_false, forall_eq_or_imp, forall_eq]); (try simp (disch := omega) [i64w, *])))
  · obtain rfl : i = L.length := by omega
    have hst := hst2.out
    have e1 : (refParts L ts L.length).1 = old := by rw [hst]
    have e2 : (refParts L ts L.length).2 = us := by rw [hst]
    rw [e1, e2]
    clear hc hsuc hst hst2 e1 e2 hwi hlen
    refine amGo PT93_ok (h := ?_)
    refine s_loop (J := fun v : {v : Nat // (v : Int) ≤ N} => ⟨108, [(7, .ref 60 0 old.length), (2, .ptr 0 0 0), (5, .ptr 2 0 0), (6, .v (.int .i64 0)), (8, .ptr 5 0 0), (12, .ptr 61 0 0), (13, .v (.int .i64 ((v.1 : Int) + 1)))], [(60, ⟨56, 3, old.map partRow⟩), (5, ⟨31, 2, [[.v (.int .u64 ((lo us).toNat : Int)), .v (.int .u64 ((hi us).toNat : Int))]]⟩), (0, ⟨24, 2, [[.v (.int .i64 N), aRows L]]⟩), (2, ⟨31, 2, [[.v (.int .u64 0), .v (.int .u64 0)]]⟩), (61, ⟨31, 2, [[.v (.int .u64 ((lo (freeTo us v.1)).toNat : Int)), .v (.int .u64 ((hi (freeTo us v.1)).toNat : Int))]]⟩)], [61, 60, 5, 2, 0]⟩) (μ := fun v => (N - v.1).toNat) ⟨0, by omega⟩ ?_ (fun ⟨v, hv2⟩ => ?_)
    · have h0 : freeTo us 0 = 0#128 := rfl
      have h1 : lo 0#128 = 0#64 := rfl
      have h2 : Go.Proofs.Ytekeidhndlnghaa.hi 0#128 = 0#64 := rfl
      (refine weak_id rfl ?_ ?_ <;> ((try simp only [List.mem_cons, List.not_mem_nil, or_false, forall_eq_or_imp, forall_eq]); (try simp (disch := omega) [i64w, *])))
    dsimp only
    have hsu := freeTo_succ us v
    have hwv : IntKind.i64.wrap ((v : Int) + 1 + 1) = (v : Int) + 1 + 1 := i64w (by omega) (by omega)
    have hov : okI ((v : Int) + 1) = true := okI_iff.2 ⟨by omega, by omega⟩
    obtain ⟨fr, hfr⟩ : ∃ fr, freeTo us v = fr := ⟨_, rfl⟩
    rw [hfr] at hsu
    rw [hfr]
    have hfr2 := Lib.hid hfr
    clear hfr
    by_cases hle : (v : Int) + 1 ≤ N
    · have h128 : (v : Int) + 1 ≤ 128 := by omega
      have h1v : (1 : Int) ≤ (v : Int) + 1 := by omega
      cases hq : sHas us ((v : Int) + 1)
      · rw [hq, if_neg (by simp)] at hsu
        have hse : aSet (sWith fr ((v : Int) + 1)) = .agg [.v (.int .u64 ((lo (sWith fr ((v : Int) + 1))).toNat : Int)), .v (.int .u64 ((hi (sWith fr ((v : Int) + 1))).toNat : Int))] := rfl
        refine amGo PT93_ok (h := ?_)
        refine k_lp (⟨v + 1, by push_cast; exact hle⟩ : {v : Nat // (v : Int) ≤ N}) (by first | omega | (dsimp only; omega)) ?_
        dsimp only
        rw [hsu]
        (refine weak_id rfl ?_ ?_ <;> ((try simp only [List.mem_cons, List.not_mem_nil, or_false, forall_eq_or_imp, forall_eq]); (try simp (disch := omega) [i64w, *])))
      · rw [hq, if_pos rfl] at hsu
        refine amGo PT93_ok (h := ?_)
        refine k_lp (⟨v + 1, by push_cast; exact hle⟩ : {v : Nat // (v : Int) ≤ N}) (by first | omega | (dsimp only; omega)) ?_
        dsimp only
        rw [hsu]
        (refine weak_id rfl ?_ ?_ <;> ((try simp only [List.mem_cons, List.not_mem_nil, or_false, forall_eq_or_imp, forall_eq]); (try simp (disch := omega) [i64w, *])))
    · obtain rfl : v = N.toNat := by omega
      rw [hfr2.out]
      clear hsu hwv hov hfr2
      have hmx : max N 0 = N := by omega
      have hN1 : ¬ (N + 1 ≤ N) := by omega
      have htk : (old.map partRow).take old.length = old.map partRow := List.take_of_length_le (by simp)
      refine amStr (h := ?_)
      refine amReg PT93_ok (h := ?_)
      refine amStr (h := ?_)
      refine s_frz (fun q => q == 60) ?_
      refine s_weak ⟨108, [(7, .sl 3 (old.map partRow)), (5, .ptr 2 0 0), (6, .v (.int .i64 0)), (12, .ptr 61 0 0)], [(2, ⟨31, 2, [[.v (.int .u64 0), .v (.int .u64 0)]]⟩), (61, ⟨31, 2, [[.v (.int .u64 ((lo fr).toNat : Int)), .v (.int .u64 ((hi fr).toNat : Int))]]⟩)], [61, 2]⟩ ?_ ?_
      · refine weak_id rfl ?_ ?_
        all_goals ((try simp only [List.mem_cons, List.not_mem_nil, or_false, forall_eq_or_imp, forall_eq]); (try simp (disch := omega) [lk, lk_st, lk_dl, lk_cl, lk_pt, lk_fams_lt, AV.ids, idsL, idsLL, AV.ren, renL, renLL, frz_lk, frz_sl, frzV, AS.shut1, AS.shut2, AS.shutL, clD_lt, frz_mapR, frz_clo, frzO_pure, rho2_lt, rho2_id, rho2_1, rho2_2, lk_famH_lt, ren_mapR, i64w, *]))
        all_goals (try simp [frzO, idsLL, idsL, AV.ids])
      refine amStr (h := ?_)
      refine amDrw PT93_ok (h := ?_)
      refine amStr (h := ?_)
      ((refine post_ret (av := ?_) (by first | exact .inl rfl | exact .inr rfl) (show (Try.f13).results.toList = _ from by rw [Try.results13]) ?_ ?_); rotate_left; (focus (simp [retA, retL, ret1, lk, st, ldA, AV.cell]; rfl)); (try simp [*]))
      all_goals (try simp [aParts])
      all_goals (try rfl)
end Go.Proofs.Ytekeidhndlnghaa
