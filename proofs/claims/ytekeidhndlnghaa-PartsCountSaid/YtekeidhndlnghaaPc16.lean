/- censuslaw16.among; no condition. -/
import Derived.Test.YtekeidhndlnghaaCm16
import Derived.Test.YtekeidhndlnghaaWa
import Derived.Test.YtekeidhndlnghaaAq16
import Derived.Test.YtekeidhndlnghaaTr16
namespace Go.Proofs.Ytekeidhndlnghaa
set_option linter.unusedVariables false
set_option linter.unusedSimpArgs false
set_option linter.unusedSectionVars false
open Go.RowKit
attribute [local simp] List.getD_cons_zero List.getD_cons_succ List.getD_nil undef gvars runL runE effA stepA dstOk wantA core lk st dl AS.ev AS.evs AS.put AS.upd updO updI nxt cPick cAlloc cBox cBuild cBuildS cLoad cStore cNil plainOf cBin cNilS isNilS nilA cUn cConvX cConvB cConv bytesOf rowB cMake cSlice slA idxA cFA cF cIA cIX cIS cI cExt cLen cApp cMM cFun cCall lenA lenM isNilM nilM cNilM cMakeM hintB cMapK cLook foundR lookR cUpd putM cDel delM findA isKeyB Instr.sameNow AS.entry AS.bound AS.callee sc1 sc2 ixOk ldA AV.flat AV.cell AV.cells Value.oneCell' fillA spl chunk zeros AS.parts AS.rows AS.shut AS.shut1 AS.shut2 AS.shutL AS.shutM AV.ids idsL idsLL eqAll bndA AV.scalar AV.scalar1 AV.isV Ef.app Ef.pk ptOf pntO wrO wr
attribute [-simp] List.getD_eq_getElem?_getD
set_option maxRecDepth 100000
theorem u64v {x : Int} (h1 : 0 ≤ x) (h2 : x ≤ 18446744073709551615) : IntKind.u64.wrap x = x := by
  rw [IntKind.wrap_u64]; omega
theorem two_shl {n : Nat} (hn : n ≤ 10) : IntKind.u64.wrap (2 ^ min n IntKind.u64.bits) = ((2 ^ n : Nat) : Int) := by
  rw [show min n IntKind.u64.bits = n from by have : IntKind.u64.bits = 64 := rfl; omega]
  have h1 : 2 ^ n ≤ 2 ^ 10 := Nat.pow_le_pow_right (by omega) hn
  have h2 := Nat.two_pow_pos n
  have h3 : (2 : Int) ^ n = ((2 ^ n : Nat) : Int) := by push_cast; rfl
  rw [h3]
  exact u64v (by omega) (by omega)
theorem toSet_nat {k : Nat} (hk : k < 2 ^ 64) : toSet (.agg [.v (.int .u64 (k : Int)), .v (.int .u64 0)]) = some (nSet k) := by
  show (if (BitVec.ofNat 64 k).toNat = k ∧ (BitVec.ofNat 64 0).toNat = 0 then some (BitVec.ofNat 64 0 ++ BitVec.ofNat 64 k) else none) = _
  rw [if_pos ⟨by rw [BitVec.toNat_ofNat]; exact Nat.mod_eq_of_lt hk, rfl⟩]
  congr 1
  apply BitVec.eq_of_toNat_eq
  unfold nSet
  rw [BitVec.toNat_append, BitVec.toNat_ofNat, BitVec.toNat_ofNat, BitVec.toNat_ofNat]
  rw [Nat.mod_eq_of_lt hk, Nat.mod_eq_of_lt (Nat.lt_of_lt_of_le hk (Nat.pow_le_pow_right (by omega) (by omega)))]
  simp
theorem am_word (S : BitVec 128) (k : Nat) : IntKind.u64.wrap ((k % 2 ^ IntKind.u64.bits &&& 2 ^ IntKind.u64.bits - 1 - (lo S).toNat % 2 ^ IntKind.u64.bits : Nat) : Int) = ((BitVec.ofNat 64 k &&& ~~~ lo S).toNat : Int) := by
  have e : (k % 2 ^ IntKind.u64.bits &&& 2 ^ IntKind.u64.bits - 1 - (lo S).toNat % 2 ^ IntKind.u64.bits : Nat) = (BitVec.ofNat 64 k &&& ~~~ lo S).toNat := by
    rw [BitVec.toNat_and, BitVec.toNat_ofNat, BitVec.toNat_not]
    rw [show IntKind.u64.bits = 64 from rfl, Nat.mod_eq_of_lt (lo S).isLt]
  rw [e]
  have := (BitVec.ofNat 64 k &&& ~~~ lo S).isLt
  exact u64v (by omega) (by omega)
theorem am_zero (S : BitVec 128) (k : Nat) : (((BitVec.ofNat 64 k &&& ~~~ lo S).toNat : Int) == 0) = amK S k := by
  unfold amK
  apply Bool.eq_iff_iff.2
  rw [beq_iff_eq, decide_eq_true_eq]
  constructor
  · intro h
    apply BitVec.eq_of_toNat_eq
    simp only [BitVec.toNat_ofNat]
    omega
  · intro h; rw [h]; rfl
set_option maxHeartbeats 4000000 in
theorem among_p (n : Nat) (X : List (List Int)) (S : BitVec 128) (hn : n ≤ 10) (hX : okRows X = true) : FnPure Try.prog 25 [aTh (n : Int) X, aSet S] (.v (.int .i64 (cnt (fun k => amK S k && evalT (n : Int) X (nSet k)) (2 ^ n) : Int))) := by
  have hse : aSet S = .agg [.v (.int .u64 ((lo S).toNat : Int)), .v (.int .u64 ((hi S).toNat : Int))] := rfl
  have hno : okI (n : Int) = true := okI_iff.2 ⟨by omega, by omega⟩
  have hnu : IntKind.u64.wrap (n : Int) = n := u64v (by omega) (by omega)
  have hsh := two_shl hn
  obtain ⟨P, hP⟩ : ∃ P, 2 ^ n = P := ⟨_, rfl⟩
  have hP1024 : P ≤ 1024 := by rw [← hP]; exact Nat.pow_le_pow_right (n := 2) (by omega) hn
  rw [hP] at hsh
  rw [hP]
  obtain ⟨E, hE⟩ : ∃ E : Nat → Bool, (fun k => evalT (n : Int) X (nSet k)) = E := ⟨_, rfl⟩
  have hEk : ∀ k, evalT (n : Int) X (nSet k) = E k := fun k => congrFun hE k
  simp only [hEk]
  obtain ⟨C, hC⟩ : ∃ C : Nat → Bool, (fun k => amK S k && E k) = C := ⟨_, rfl⟩
  rw [hC]
  have hCk : ∀ k, (amK S k && E k) = C k := fun k => congrFun hC k
  have hidr : idsLL (X.map fun xs => [aInts xs]) = [] := by show (aRows X).ids = []; simp
  clear hE hC hP
  unfold aTh
  rw [hse]
  refine fn_sp TT_ok Try.func25 (c := _) rfl (by simp [Try.ntmps25]) (fun B hI0 hro => ?_)
  rw [Try.ntmps25]
  simp only [enumA]
  refine amGo PT1_ok (h := ?_)
  refine s_loop (J := fun k : {k : Nat // k ≤ P} => ⟨29, [(2, .ptr 0 0 0), (3, .ptr 1 0 0), (4, .v (.int .i64 0)), (5, .v (.int .i64 (cnt C k.1 : Int))), (6, .v (.int .u64 (k.1 : Int)))], [(0, ⟨24, 2, [[.v (.int .i64 (n : Int)), aRows X]]⟩), (1, ⟨31, 2, [[.v (.int .u64 ((lo S).toNat : Int)), .v (.int .u64 ((hi S).toNat : Int))]]⟩)], [1, 0]⟩) (μ := fun k => P - k.1) ⟨0, Nat.zero_le _⟩ ?_ (fun ⟨k, hk⟩ => ?_)
  · have h0 : cnt C 0 = 0 := rfl
    (refine weak_id rfl ?_ ?_ <;> ((try simp only [List.mem_cons, List.not_mem_nil, or_false, forall_eq_or_imp, forall_eq]); (try simp (disch := omega) [i64w, *])))
  have hcl := cnt_le C k
  have hcs := cnt_succ C k
  have hwk : IntKind.u64.wrap ((k : Int) + 1) = (k : Int) + 1 := u64v (by omega) (by omega)
  refine amStr (h := ?_)
  refine amReg PT1_ok (h := ?_)
  refine amStr (h := ?_)
  (focus ((with_reducible refine sp_cond (b := ?_) ?_ (fun hc => ?_) (fun hc => ?_)); rotate_left; (focus (first | rfl | (simp [lk, AS.ev]; rfl))); all_goals (try simp at hc)))
  · have hkk := hc
    clear hc
    have hkE := hEk k
    have hset := toSet_nat (k := k) (by omega)
    have hw1 := am_word S k
    have hw2 := am_zero S k
    obtain ⟨D, hD⟩ : ∃ D : Nat, (BitVec.ofNat 64 k &&& ~~~ lo S).toNat = D := ⟨_, rfl⟩
    rw [hD] at hw1 hw2
    have hCk1 := hCk k
    have hwc : IntKind.i64.wrap ((cnt C k : Int) + 1) = (cnt C k : Int) + 1 := i64s _ (by omega)
    clear hD hEk hCk
    cases hq : amK S k
    · rw [hq, Bool.false_and] at hCk1
      rw [← hCk1, if_neg (by simp)] at hcs
      rw [hq] at hw2
      clear hCk1
      refine amGo PT1_ok (h := ?_)
      refine k_lp (⟨k + 1, by omega⟩ : {k : Nat // k ≤ P}) (by first | omega | (dsimp only; omega)) ?_
      dsimp only
      rw [hcs]
      (refine weak_id rfl ?_ ?_ <;> ((try simp only [List.mem_cons, List.not_mem_nil, or_false, forall_eq_or_imp, forall_eq]); (try simp (disch := omega) [i64w, *])))
    · rw [hq, Bool.true_and] at hCk1
      rw [← hCk1] at hcs
      rw [hq] at hw2
      clear hCk1
      cases hq2 : E k
      · rw [hq2, if_neg (by simp)] at hcs
        rw [hq2] at hkE
        refine amGo PT1_ok (h := ?_)
        refine k_lp (⟨k + 1, by omega⟩ : {k : Nat // k ≤ P}) (by first | omega | (dsimp only; omega)) ?_
        dsimp only
        rw [hcs]
        (refine weak_id rfl ?_ ?_ <;> ((try simp only [List.mem_cons, List.not_mem_nil, or_false, forall_eq_or_imp, forall_eq]); (try simp (disch := omega) [i64w, *])))
      · rw [hq2, if_pos rfl] at hcs
        rw [hq2] at hkE
        refine amGo PT1_ok (h := ?_)
        refine k_lp (⟨k + 1, by omega⟩ : {k : Nat // k ≤ P}) (by first | omega | (dsimp only; omega)) ?_
        dsimp only
        rw [hcs]
        (refine weak_id rfl ?_ ?_ <;> ((try simp only [List.mem_cons, List.not_mem_nil, or_false, forall_eq_or_imp, forall_eq]); (try simp (disch := omega) [i64w, *])))
  · obtain rfl : k = P := by omega
    clear hc
    refine amGo PT1_ok (h := ?_)
    ((refine post_ret (av := ?_) (by first | exact .inl rfl | exact .inr rfl) (show (Try.f25).results.toList = _ from by rw [Try.results25]) ?_ ?_); rotate_left; (focus (simp [retA, retL, ret1, lk, st, ldA, AV.cell]; rfl)); (try simp [*]))
end Go.Proofs.Ytekeidhndlnghaa
