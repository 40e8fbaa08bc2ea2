/- The table of a net as an argument; the index of an assignment; no condition. -/
import Derived.Test.YtecdhmiamlgibaaDoorNv39
import Derived.Test.YtecdhmiamlgibaaDoorWa
import Derived.Test.YtecdhmiamlgibaaDoorVl
namespace Go.Proofs.YtecdhmiamlgibaaDoor
set_option linter.unusedVariables false
set_option linter.unusedSimpArgs false
set_option linter.unusedSectionVars false
open Go.RowKit
attribute [local simp] List.getD_cons_zero List.getD_cons_succ List.getD_nil undef gvars runL runE effA stepA dstOk wantA core lk st dl AS.ev AS.evs AS.put AS.upd updO updI nxt cPick cAlloc cBox cBuild cBuildS cLoad cStore cNil plainOf cBin cNilS isNilS nilA cUn cConvX cConvB cConv bytesOf rowB cMake cSlice slA idxA cFA cF cIA cIX cIS cI cExt cLen cApp cMM cFun cCall lenA lenM isNilM nilM cNilM cMakeM hintB cMapK cLook foundR lookR cUpd putM cDel delM findA isKeyB Instr.sameNow AS.entry AS.bound AS.callee sc1 sc2 ixOk ldA AV.flat AV.cell AV.cells Value.oneCell' fillA spl chunk zeros AS.parts AS.rows AS.shut AS.shut1 AS.shut2 AS.shutL AS.shutM AV.ids idsL idsLL eqAll bndA AV.scalar AV.scalar1 AV.isV Ef.app Ef.pk ptOf pntO wrO wr
attribute [-simp] List.getD_eq_getElem?_getD
set_option maxRecDepth 100000
def aBools (l : List Bool) : AV := .sl 1 (l.map fun b => [AV.v (.bool b)])
def aTab (N : Int) (vs : List Int) (on : List Bool) : AV := .pt [.v (.int .i64 N), aInts vs, aBools on]
def boolsOf : List (List AV) → Option (List Bool)
  | [] => some []
  | [.v (.bool b)] :: r => (boolsOf r).map (b :: ·)
  | _ :: _ => none
def toBools : AV → Option (List Bool)
  | .sl 1 ys => boolsOf ys
  | .v (.slice none 0 0) => some []
  | _ => none
@[simp] theorem boolsOf_map : ∀ l : List Bool, boolsOf (l.map fun b => [AV.v (.bool b)]) = some l
  | [] => rfl
  | b :: r => by simp [boolsOf, boolsOf_map r]
@[simp] theorem toBools_sl (l : List Bool) : toBools (.sl 1 (l.map fun b => [AV.v (.bool b)])) = some l := boolsOf_map l
@[simp] theorem toBools_a (l : List Bool) : toBools (aBools l) = some l := boolsOf_map l
theorem boolsOf_inv : ∀ {ys : List (List AV)} {l : List Bool}, boolsOf ys = some l → ys = l.map fun b => [AV.v (.bool b)]
  | [], l, h => by simp only [boolsOf, Option.some.injEq] at h; subst h; rfl
  | a :: r, l, h => by
    unfold boolsOf at h
    split at h
    · rename_i he; cases he
    · rename_i b r2 he
      cases he
      cases h2 : boolsOf r with
      | none => rw [h2] at h; cases h
      | some m => rw [h2] at h; cases h; rw [List.map_cons, ← boolsOf_inv h2]
    · cases h
theorem cov_bools {a : AV} {l : List Bool} (h : toBools a = some l) : Cov a (aBools l) := fun S v hv => by
  unfold toBools at h
  split at h
  · rw [boolsOf_inv h] at hv; exact hv
  · cases h; rw [hv.v_eq]; exact rv_nil 1
  · cases h
@[simp ↓ high] theorem d_ids_bools (l : List Bool) : idsLL (l.map fun b => [AV.v (.bool b)]) = [] := by
  induction l with
  | nil => rfl
  | cons p r ih => simp [idsLL, idsL, AV.ids, ih]
@[simp ↓ high] theorem d_ren_bools (ρ : Nat → Nat) (l : List Bool) : renLL ρ (l.map fun b => [AV.v (.bool b)]) = l.map fun b => [AV.v (.bool b)] := renLL_pure ρ _ (d_ids_bools l)
@[simp] theorem bools_get {l : List Bool} {k : Nat} (h : k < l.length) : (l.map fun b => [AV.v (.bool b)]).getD k [] = [.v (.bool (l.getD k false))] := by
  simp [List.getD, h]
theorem cov_tab {a b : AV} {vs : List Int} {on : List Bool} (N : Int) (h1 : toInts a = some vs) (h2 : toBools b = some on) : Cov (.pt [.v (.int .i64 N), a, b]) (aTab N vs on) := fun S v hv => by
  cases hv with
  | pt _ bb o us hS g1 g2 =>
    refine .pt _ bb o us hS g1 fun j hj => ?_
    match j, hj with
    | 0, _ => exact g2 0 (by simp)
    | 1, _ => exact cov_ints h1 S _ (g2 1 (by simp))
    | 2, _ => exact cov_bools h2 S _ (g2 2 (by simp))
def okV (vs : List Int) : Bool := decide (vs.length ≤ 16) && decide (vs.Nodup) && vs.all fun v => decide (1 ≤ v) && decide (v ≤ 128)
theorem okV_vs {vs : List Int} (h : okV vs = true) : okVs vs ∧ vs.length ≤ 16 := by
  unfold okV at h
  rw [Bool.and_eq_true, Bool.and_eq_true, decide_eq_true_eq, decide_eq_true_eq, List.all_eq_true] at h
  exact ⟨⟨h.1.2, fun v hv => by simpa using h.2 v hv⟩, h.1.1⟩
theorem okV_at {vs : List Int} (h : okV vs = true) {k : Nat} (hk : k < vs.length) : 1 ≤ vs.getD k 0 ∧ vs.getD k 0 ≤ 128 := (okV_vs h).1.2 _ (gmemI hk)
theorem idxN_take : ∀ {vs : List Int} {k : Nat} (a : BitVec 128), k < vs.length → idxN (vs.take (k + 1)) a = idxN (vs.take k) a + if sHas a (vs.getD k 0) = true then 2 ^ k else 0
  | [], k, a, h => by cases h
  | v :: r, 0, a, h => by simp [idxN]
  | v :: r, k + 1, a, h => by
    have h2 : k < r.length := by simpa using h
    rw [List.take_succ_cons, List.take_succ_cons, idxN, idxN, idxN_take a h2]
    have e : (v :: r).getD (k + 1) 0 = r.getD k 0 := by simp
    rw [e]
    split <;> split <;> omega
theorem or_pow {A k : Nat} (h : A < 2 ^ k) : A ||| 2 ^ k = A + 2 ^ k := by
  rw [Nat.or_comm]
  have := Nat.two_pow_add_eq_or_of_lt (b := A) h 1
  rw [Nat.mul_one] at this
  rw [← this, Nat.add_comm]
theorem bits_i64 : IntKind.i64.bits = 64 := rfl
theorem index_p (N : Int) (vs : List Int) (on : List Bool) (a : BitVec 128) (h : okV vs = true) : FnPure Tryd.prog 53 [aTab N vs on, aSet a] (.v (.int .i64 (idxN vs a : Int))) := by
  obtain ⟨hvs, hl⟩ := okV_vs h
  unfold aTab aSet WV
  refine fn_sp TT_ok Tryd.func53 (c := _) rfl (by simp [Tryd.ntmps53]) (fun B hI0 hro => ?_)
  rw [Tryd.ntmps53]
  simp only [enumA]
  refine amGo PT143_ok (h := ?_)
  refine s_loop (J := fun i : {k : Nat // k ≤ vs.length} => ⟨28, [(3, .ptr 0 0 0), (5, .v (.int .i64 (idxN (vs.take i.1) a : Int))), (11, aInts vs), (12, .v (.int .i64 (vs.length : Int))), (13, .v (.int .i64 (i.1 : Int)))], [(0, ⟨27, 2, [[.v (.int .u64 ((lo a).toNat : Int)), .v (.int .u64 ((hi a).toNat : Int))]]⟩)], [0]⟩) (μ := fun i => vs.length - i.1) ⟨0, Nat.zero_le _⟩ ?_ (fun ⟨k, hk⟩ => ?_)
  · have h0 : idxN [] a = 0 := rfl
    (refine weak_id rfl ?_ ?_ <;> ((try simp only [List.mem_cons, List.not_mem_nil, or_false, forall_eq_or_imp, forall_eq]); (try simp (disch := omega) [i64w, *])))
  refine amGo PT143_ok (h := ?_)
  (focus ((with_reducible refine sp_cond (b := ?_) ?_ (fun hc => ?_) (fun hc => ?_)); rotate_left; (focus (first | rfl | (simp [lk, AS.ev]; rfl))); all_goals (try simp at hc)))
  · have hkk := hc
    clear hc
    have hv := okV_at h hkk
    have ho : okI (vs.getD k 0) = true := okI_iff.2 ⟨by omega, by omega⟩
    have hs := idxN_take a hkk
    have hA := idxN_lt (vs.take k) a
    rw [List.length_take, Nat.min_eq_left hk] at hA
    have hwk : IntKind.u64.wrap (k : Int) = (k : Int) := u64w (by omega) (by omega)
    have hk0 : ¬ ((k : Int) < 0) := by omega
    have hmin : min k IntKind.i64.bits = k := by rw [bits_i64]; omega
    have hp : 2 ^ k ≤ 65536 := Nat.pow_le_pow_right (n := 2) (by omega) (show k ≤ 16 by omega)
    have hor := or_pow hA
    obtain ⟨A, hAe⟩ : ∃ A, idxN (vs.take k) a = A := ⟨_, rfl⟩
    obtain ⟨M, hM⟩ : ∃ M : Nat, 2 ^ k = M := ⟨_, rfl⟩
    have hpow : IntKind.i64.wrap (2 ^ k) = (M : Int) := by
      have e : ((2 : Int) ^ k) = (M : Int) := by rw [← hM]; simp
      rw [e]; exact i64w (by omega) (by omega)
    rw [hAe, hM] at hs hor
    rw [hAe, hM] at hA
    rw [hAe]
    have hor2 : A % 2 ^ IntKind.i64.bits ||| M % 2 ^ IntKind.i64.bits = A + M := by
      rw [bits_i64, Nat.mod_eq_of_lt (by omega), Nat.mod_eq_of_lt (by omega)]; exact hor
    have hwr : IntKind.i64.wrap ((A : Int) + (M : Int)) = (A : Int) + (M : Int) := i64w (by omega) (by omega)
    clear hAe hor hM
    cases h1 : sHas a (vs.getD k 0)
    · rw [h1] at hs
      refine amGo PT143_ok (h := ?_)
      refine k_lp (⟨k + 1, by omega⟩ : {k : Nat // k ≤ vs.length}) (by first | omega | (dsimp only; omega)) ?_
      (refine weak_id rfl ?_ ?_ <;> ((try simp only [List.mem_cons, List.not_mem_nil, or_false, forall_eq_or_imp, forall_eq]); (try simp (disch := omega) [i64w, *])))
    · rw [h1] at hs
      refine amGo PT143_ok (h := ?_)
      refine k_lp (⟨k + 1, by omega⟩ : {k : Nat // k ≤ vs.length}) (by first | omega | (dsimp only; omega)) ?_
      (refine weak_id rfl ?_ ?_ <;> ((try simp only [List.mem_cons, List.not_mem_nil, or_false, forall_eq_or_imp, forall_eq]); (try simp (disch := omega) [i64w, *])))
  · obtain rfl : k = vs.length := by omega
    have e : vs.take vs.length = vs := List.take_length
    rw [e]
    refine amGo PT143_ok (h := ?_)
    ((refine post_ret (av := ?_) (by first | exact .inl rfl | exact .inr rfl) (show (Tryd.f53).results.toList = _ from by rw [Tryd.results53]) ?_ ?_); rotate_left; (focus (simp [retA, retL, ret1, lk, st, ldA, AV.cell]; rfl)); (try simp [*]))
@[simp] def g_tIndex : List AV → Option (AV × Bool)
  | [.pt [.v (.int .i64 N), a0, b0], a1] => (match toInts a0 with | some vs => (match toBools b0 with | some on => (match toSet a1 with | some a => if (okV vs) = true then some (.v (.int .i64 (idxN vs a : Int)), false) else none | none => none) | none => none) | none => none)
  | _ => none
theorem e_tIndex : EntOk Tryd.prog 53 g_tIndex := ent_pure (by kernel_rfl) fun args r fr h => by
  unfold g_tIndex at h
  split at h
  · rename_i N a0 b0 a1
    split at h
    · rename_i vs t0
      split at h
      · rename_i on s0
        split at h
        · rename_i a t1
          split at h
          · rename_i hc
            have hk := hc
            cases h
            exact ⟨FnPure.cov (index_p N vs on a hk) (.cons (cov_tab _ t0 s0) (.cons (toSet_inv t1 ▸ Cov.refl _) .nil)), rfl⟩
          · cases h
        · cases h
      · cases h
    · cases h
  · cases h

def l145 : List (FuncId × (List AV → Option (AV × Bool))) :=
  (53, g_tIndex) :: l143
theorem l145_ok : ∀ p ∈ l145, EntOk Tryd.prog p.1 p.2 := ent_cons e_tIndex (l143_ok)
def PT145 : PTab := tab l145
theorem PT145_ok : PTok Tryd.prog PT145 := tab_ok l145_ok
@[simp] theorem PT145_litVar : PT145 85 = g_litVar := rfl
@[simp] theorem PT145_litValid : PT145 110 = g_litValid := rfl
@[simp] theorem PT145_with : PT145 26 = g_with := rfl
@[simp] theorem PT145_without : PT145 25 = g_without := rfl
@[simp] theorem PT145_all : PT145 29 = g_all := rfl
@[simp] theorem PT145_place : PT145 54 = g_place := rfl
@[simp] theorem PT145_vHas : PT145 36 = g_vHas := rfl
@[simp] theorem PT145_vMinus : PT145 31 = g_vMinus := rfl
@[simp] theorem PT145_vCut : PT145 22 = g_vCut := rfl
@[simp] theorem PT145_vUnion : PT145 21 = g_vUnion := rfl
@[simp] theorem PT145_vSub : PT145 72 = g_vSub := rfl
@[simp] theorem PT145_litHolds : PT145 56 = g_litHolds := rfl
@[simp] theorem PT145_nFormed : PT145 84 = g_nFormed := rfl
@[simp] theorem PT145_nCheck : PT145 55 = g_nCheck := rfl
@[simp] theorem PT145_r4Var : PT145 97 = g_r4Var := rfl
@[simp] theorem PT145_r4Valid : PT145 96 = g_r4Valid := rfl
@[simp] theorem PT145_rFormed : PT145 69 = g_rFormed := rfl
@[simp] theorem PT145_rValid20 : PT145 40 = g_rValid20 := rfl
@[simp] theorem PT145_r3Has : PT145 83 = g_r3Has := rfl
@[simp] theorem PT145_r3List : PT145 70 = g_r3List := rfl
@[simp] theorem PT145_r3Len : PT145 41 = g_r3Len := rfl
@[simp] theorem PT145_light39 : PT145 39 = g_light39 := rfl
@[simp] theorem PT145_r20Vars : PT145 71 = g_r20Vars := rfl
@[simp] theorem PT145_r39Mat : PT145 42 = g_r39Mat := rfl
@[simp] theorem PT145_few39 : PT145 12 = g_few39 := rfl
@[simp] theorem PT145_vOf : PT145 23 = g_vOf := rfl
@[simp] theorem PT145_nVars : PT145 91 = g_nVars := rfl
@[simp] theorem PT145_tIndex : PT145 53 = g_tIndex := rfl
end Go.Proofs.YtecdhmiamlgibaaDoor
