/- The literals of an assignment at some places; no condition. -/
import Derived.Test.YtecdhmiamlgibaaDoorTb39
import Derived.Test.YtecdhmiamlgibaaDoorWa
namespace Go.Proofs.YtecdhmiamlgibaaDoor
set_option linter.unusedVariables false
set_option linter.unusedSimpArgs false
set_option linter.unusedSectionVars false
open Go.RowKit
attribute [local simp] List.getD_cons_zero List.getD_cons_succ List.getD_nil undef gvars runL runE effA stepA dstOk wantA core lk st dl AS.ev AS.evs AS.put AS.upd updO updI nxt cPick cAlloc cBox cBuild cBuildS cLoad cStore cNil plainOf cBin cNilS isNilS nilA cUn cConvX cConvB cConv bytesOf rowB cMake cSlice slA idxA cFA cF cIA cIX cIS cI cExt cLen cApp cMM cFun cCall lenA lenM isNilM nilM cNilM cMakeM hintB cMapK cLook foundR lookR cUpd putM cDel delM findA isKeyB Instr.sameNow AS.entry AS.bound AS.callee sc1 sc2 ixOk ldA AV.flat AV.cell AV.cells Value.oneCell' fillA spl chunk zeros AS.parts AS.rows AS.shut AS.shut1 AS.shut2 AS.shutL AS.shutM AV.ids idsL idsLL eqAll bndA AV.scalar AV.scalar1 AV.isV Ef.app Ef.pk ptOf pntO wrO wr
attribute [-simp] List.getD_eq_getElem?_getD
set_option maxRecDepth 100000
theorem termL_take : ∀ {vs : List Int} {k : Nat} (x P : Nat), k < vs.length → termL (vs.take (k + 1)) x P = if P.testBit k = true then (if x.testBit k = true then termL (vs.take k) x P ++ [vs.getD k 0] else termL (vs.take k) x P ++ [-vs.getD k 0]) else termL (vs.take k) x P
  | [], k, x, P, h => by cases h
  | v :: r, 0, x, P, h => by
    simp only [List.take_succ_cons, List.take_zero, termL, Nat.testBit_zero, decide_eq_true_eq, List.nil_append]
    by_cases h1 : P % 2 = 1 <;> by_cases h2 : x % 2 = 1 <;> simp [h1, h2]
  | v :: r, k + 1, x, P, h => by
    have h2 : k < r.length := by simpa using h
    rw [List.take_succ_cons, List.take_succ_cons, termL, termL, termL_take (x / 2) (P / 2) h2, Nat.testBit_succ, Nat.testBit_succ]
    have e : (v :: r).getD (k + 1) 0 = r.getD k 0 := by simp
    rw [e]
    by_cases h3 : P % 2 = 1 <;> by_cases h4 : x % 2 = 1 <;> cases (P / 2).testBit k <;> cases (x / 2).testBit k <;> simp [h3, h4]
theorem termL_len : ∀ (vs : List Int) (x P : Nat), (termL vs x P).length ≤ vs.length
  | [], _, _ => Nat.le_refl _
  | v :: r, x, P => by
    have := termL_len r (x / 2) (P / 2)
    unfold termL
    split
    · rw [List.length_cons, List.length_cons]; omega
    · rw [List.length_cons]; omega
theorem bit_and (Q : Nat) (hQ : Q < 2 ^ 64) : (IntKind.i64.wrap ((Q % 2 ^ IntKind.i64.bits &&& 1 % 2 ^ IntKind.i64.bits : Nat) : Int)) = ((Q % 2 : Nat) : Int) := by
  rw [bits_i64, Nat.mod_eq_of_lt hQ, Nat.mod_eq_of_lt (by decide), Nat.and_one_is_mod]
  exact i64w (by omega) (by omega)
theorem fdiv_pow (P k : Nat) : ((P : Int)).fdiv (2 ^ k) = ((P / 2 ^ k : Nat) : Int) := by
  rw [Int.fdiv_eq_ediv_of_nonneg _ (by exact Int.le_of_lt (Int.pow_pos (by decide)))]
  simp
theorem bit_div (P k : Nat) : P.testBit k = decide (P / 2 ^ k % 2 = 1) := Nat.testBit_eq_decide_div_mod_eq ..
theorem term_p (N : Int) (vs : List Int) (on : List Bool) (x P : Nat) (h : okV vs = true) (hx : x ≤ 65535) (hP : P ≤ 65535) : FnPure Tryd.prog 45 [aTab N vs on, .v (.int .i64 (x : Int)), .v (.int .i64 (P : Int))] (aInts (termL vs x P)) := by
  obtain ⟨hvs, hl⟩ := okV_vs h
  unfold aTab
  refine fn_sp TT_ok Tryd.func45 (c := _) rfl (by simp [Tryd.ntmps45]) (fun B hI0 hro => ?_)
  rw [Tryd.ntmps45]
  simp only [enumA]
  refine amStr (h := ?_)
  refine amReg PT145_ok (h := ?_)
  refine amStr (h := ?_)
  refine amReg PT145_ok (h := ?_)
  refine amStr (h := ?_)
  refine amReg PT145_ok (h := ?_)
  refine amStr (h := ?_)
  refine s_nil 7 50 3 1 (by simp [lk]) (by simp) ?_
  simp only [st]
  refine s_loop (J := fun i : {k : Nat // k ≤ vs.length} => ⟨45, [(1, .v (.int .i64 (x : Int))), (2, .v (.int .i64 (P : Int))), (7, .ref 50 0 (termL (vs.take i.1) x P).length), (13, aInts vs), (14, .v (.int .i64 (vs.length : Int))), (15, .v (.int .i64 (i.1 : Int)))], [(50, ⟨3, 1, (termL (vs.take i.1) x P).map fun x => [.v (.int .i64 x)]⟩)], [50]⟩) (μ := fun i => vs.length - i.1) ⟨0, Nat.zero_le _⟩ ?_ (fun ⟨k, hk⟩ => ?_)
  · have h0 : termL [] x P = [] := rfl
    (refine weak_id rfl ?_ ?_ <;> ((try simp only [List.mem_cons, List.not_mem_nil, or_false, forall_eq_or_imp, forall_eq]); (try simp (disch := omega) [i64w, *])))
  refine amStr (h := ?_)
  refine amReg PT145_ok (h := ?_)
  refine amStr (h := ?_)
  (focus ((with_reducible refine sp_cond (b := ?_) ?_ (fun hc => ?_) (fun hc => ?_)); rotate_left; (focus (first | rfl | (simp [lk, AS.ev]; rfl))); all_goals (try simp at hc)))
  · have hkk := hc
    clear hc
    have hv := okV_at h hkk
    have ho : okI (vs.getD k 0) = true := okI_iff.2 ⟨by omega, by omega⟩
    have hs := termL_take x P hkk
    have hlen := termL_len (vs.take k) x P
    rw [List.length_take, Nat.min_eq_left hk] at hlen
    have hwk : IntKind.u64.wrap (k : Int) = (k : Int) := u64w (by omega) (by omega)
    have hk0 : ¬ ((k : Int) < 0) := by omega
    have hmin : min k IntKind.i64.bits = k := by rw [bits_i64]; omega
    have f1 := fdiv_pow P k
    have f2 := fdiv_pow x k
    simp only [bit_div, decide_eq_true_eq] at hs
    have q1 : P / 2 ^ k ≤ P := Nat.div_le_self _ _
    have q2 : x / 2 ^ k ≤ x := Nat.div_le_self _ _
    obtain ⟨Q, hQ⟩ : ∃ Q, P / 2 ^ k = Q := ⟨_, rfl⟩
    obtain ⟨Y, hY⟩ : ∃ Y, x / 2 ^ k = Y := ⟨_, rfl⟩
    rw [hQ] at f1 hs q1
    rw [hY] at f2 hs q2
    have g1 := bit_and Q (by omega)
    have g2 := bit_and Y (by omega)
    obtain ⟨T, hT⟩ : ∃ T, termL (vs.take k) x P = T := ⟨_, rfl⟩
    rw [hT] at hs hlen
    rw [hT]
    clear hQ hY hT
    have hcap : (T.length + 1) * 8 ≤ 140737488355328 := by omega
    have hwn : IntKind.i64.wrap (-vs.getD k 0) = -vs.getD k 0 := i64w (by omega) (by omega)
    rcases (by omega : Q % 2 = 0 ∨ Q % 2 = 1) with hq | hq
    · rw [if_neg (by omega)] at hs
      refine amGo PT145_ok (h := ?_)
      refine k_lp (⟨k + 1, by omega⟩ : {k : Nat // k ≤ vs.length}) (by first | omega | (dsimp only; omega)) ?_
      (refine weak_id rfl ?_ ?_ <;> ((try simp only [List.mem_cons, List.not_mem_nil, or_false, forall_eq_or_imp, forall_eq]); (try simp (disch := omega) [i64w, *])))
    · rw [if_pos hq] at hs
      rcases (by omega : Y % 2 = 0 ∨ Y % 2 = 1) with hy | hy
      · rw [if_neg (by omega)] at hs
        refine amGo PT145_ok (h := ?_)
        refine k_lp (⟨k + 1, by omega⟩ : {k : Nat // k ≤ vs.length}) (by first | omega | (dsimp only; omega)) ?_
        (refine weak_of (fun q => if q = 50 then 55 else q) ⟨rfl, ?_, ?_, ?_⟩ <;> ((try simp only [List.mem_cons, List.not_mem_nil, or_false, forall_eq_or_imp, forall_eq]); (try simp (disch := omega) [lk, AV.ids, idsL, idsLL, AV.ren, renL, renLL, i64w, *])))
      · rw [if_pos hy] at hs
        refine amGo PT145_ok (h := ?_)
        refine k_lp (⟨k + 1, by omega⟩ : {k : Nat // k ≤ vs.length}) (by first | omega | (dsimp only; omega)) ?_
        (refine weak_of (fun q => if q = 50 then 54 else q) ⟨rfl, ?_, ?_, ?_⟩ <;> ((try simp only [List.mem_cons, List.not_mem_nil, or_false, forall_eq_or_imp, forall_eq]); (try simp (disch := omega) [lk, AV.ids, idsL, idsLL, AV.ren, renL, renLL, i64w, *])))
  · obtain rfl : k = vs.length := by omega
    have e : vs.take vs.length = vs := List.take_length
    rw [e]
    refine amGo PT145_ok (h := ?_)
    ((refine post_ret (av := ?_) (by first | exact .inl rfl | exact .inr rfl) (show (Tryd.f45).results.toList = _ from by rw [Tryd.results45]) ?_ ?_); rotate_left; (focus (simp [retA, retL, ret1, lk, st, ldA, AV.cell]; rfl)); (try simp [*]))
@[simp] def g_tTerm : List AV → Option (AV × Bool)
  | [.pt [.v (.int .i64 N), a0, b0], .v (.int .i64 x), .v (.int .i64 y)] => (match toInts a0 with | some vs => (match toBools b0 with | some on => if (okI x && okI y && (okV vs && decide (0 ≤ x) && decide (x ≤ 65535) && decide (0 ≤ y) && decide (y ≤ 65535))) = true then some (aInts (termL vs x.toNat y.toNat), false) else none | none => none) | none => none)
  | _ => none
theorem e_tTerm : EntOk Tryd.prog 45 g_tTerm := ent_pure (by kernel_rfl) fun args r fr h => by
  unfold g_tTerm at h
  split at h
  · rename_i N a0 b0 x y
    split at h
    · rename_i vs t0
      split at h
      · rename_i on s0
        split at h
        · rename_i hc
          simp only [Bool.and_eq_true] at hc
          obtain ⟨⟨o1, o2⟩, hk⟩ := hc
          cases h
          exact ⟨FnPure.cov ((by have h := term_p N vs on x.toNat y.toNat hk.1.1.1.1 (by have := of_decide_eq_true hk.1.1.2; omega) (by have := of_decide_eq_true hk.2; omega); rw [Int.toNat_of_nonneg (of_decide_eq_true hk.1.1.1.2), Int.toNat_of_nonneg (of_decide_eq_true hk.1.2)] at h; exact h)) (.cons (cov_tab _ t0 s0) (.cons (Cov.refl _) (.cons (Cov.refl _) .nil))), rfl⟩
        · cases h
      · cases h
    · cases h
  · cases h

def l146 : List (FuncId × (List AV → Option (AV × Bool))) :=
  (45, g_tTerm) :: l145
theorem l146_ok : ∀ p ∈ l146, EntOk Tryd.prog p.1 p.2 := ent_cons e_tTerm (l145_ok)
def PT146 : PTab := tab l146
theorem PT146_ok : PTok Tryd.prog PT146 := tab_ok l146_ok
@[simp] theorem PT146_litVar : PT146 85 = g_litVar := rfl
@[simp] theorem PT146_litValid : PT146 110 = g_litValid := rfl
@[simp] theorem PT146_with : PT146 26 = g_with := rfl
@[simp] theorem PT146_without : PT146 25 = g_without := rfl
@[simp] theorem PT146_all : PT146 29 = g_all := rfl
@[simp] theorem PT146_place : PT146 54 = g_place := rfl
@[simp] theorem PT146_vHas : PT146 36 = g_vHas := rfl
@[simp] theorem PT146_vMinus : PT146 31 = g_vMinus := rfl
@[simp] theorem PT146_vCut : PT146 22 = g_vCut := rfl
@[simp] theorem PT146_vUnion : PT146 21 = g_vUnion := rfl
@[simp] theorem PT146_vSub : PT146 72 = g_vSub := rfl
@[simp] theorem PT146_litHolds : PT146 56 = g_litHolds := rfl
@[simp] theorem PT146_nFormed : PT146 84 = g_nFormed := rfl
@[simp] theorem PT146_nCheck : PT146 55 = g_nCheck := rfl
@[simp] theorem PT146_r4Var : PT146 97 = g_r4Var := rfl
@[simp] theorem PT146_r4Valid : PT146 96 = g_r4Valid := rfl
@[simp] theorem PT146_rFormed : PT146 69 = g_rFormed := rfl
@[simp] theorem PT146_rValid20 : PT146 40 = g_rValid20 := rfl
@[simp] theorem PT146_r3Has : PT146 83 = g_r3Has := rfl
@[simp] theorem PT146_r3List : PT146 70 = g_r3List := rfl
@[simp] theorem PT146_r3Len : PT146 41 = g_r3Len := rfl
@[simp] theorem PT146_light39 : PT146 39 = g_light39 := rfl
@[simp] theorem PT146_r20Vars : PT146 71 = g_r20Vars := rfl
@[simp] theorem PT146_r39Mat : PT146 42 = g_r39Mat := rfl
@[simp] theorem PT146_few39 : PT146 12 = g_few39 := rfl
@[simp] theorem PT146_vOf : PT146 23 = g_vOf := rfl
@[simp] theorem PT146_nVars : PT146 91 = g_nVars := rfl
@[simp] theorem PT146_tIndex : PT146 53 = g_tIndex := rfl
@[simp] theorem PT146_tTerm : PT146 45 = g_tTerm := rfl
end Go.Proofs.YtecdhmiamlgibaaDoor
