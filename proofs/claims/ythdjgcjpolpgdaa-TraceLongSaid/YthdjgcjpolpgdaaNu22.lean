/- A writer of bytes on the abstract machine: it is lent to a call, with its buffer; no condition. -/
import Derived.Test.YthdjgcjpolpgdaaSpo
import Derived.Test.YthdjgcjpolpgdaaWa
import Derived.Test.YthdjgcjpolpgdaaLt
namespace Go.Proofs.Ythdjgcjpolpgdaa
set_option linter.unusedVariables false
set_option linter.unusedSimpArgs false
set_option linter.unusedSectionVars false
open Go.RowKit
attribute [local simp] List.getD_cons_zero List.getD_cons_succ List.getD_nil undef gvars runL runE effA stepA dstOk wantA core lk st dl AS.ev AS.evs AS.put AS.upd updO updI nxt cPick cAlloc cBox cBuild cBuildS cLoad cStore cNil plainOf cBin cNilS isNilS nilA cUn cConvX cConvB cConv bytesOf rowB cMake cSlice slA idxA cFA cF cIA cIX cIS cI cExt cLen cApp cMM cFun cCall lenA lenM isNilM nilM cNilM cMakeM hintB cMapK cLook foundR lookR cUpd putM cDel delM findA isKeyB Instr.sameNow AS.entry AS.bound AS.callee sc1 sc2 ixOk ldA AV.flat AV.cell AV.cells Value.oneCell' fillA spl chunk zeros AS.parts AS.rows AS.shut AS.shut1 AS.shut2 AS.shutL AS.shutM AV.ids idsL idsLL eqAll bndA AV.scalar AV.scalar1 AV.isV Ef.app Ef.pk ptOf pntO wrO wr
attribute [-simp] List.getD_eq_getElem?_getD
set_option maxRecDepth 100000
section
variable {P : Program} {TT : TTab} {B : Base} {ops : Array Oper}
def LendW (P : Program) (TT : TTab) (fn : Func) (c : Code) (L : List AV) (p k m : Nat) (O1 O2 O3 O4 : AObj) : Prop :=
  ∀ B' : Base, B'.I0 = [p, k] → B'.ro = none → SP P B' c ⟨fn.ntmps, enumA 0 L, [(p, O1), (k, O2)], [p, k]⟩ (fun e τ => (e = .normal ∨ e = .ret) ∧ ∃ av', retA TT τ fn.results.toList = some av' ∧ av' = .tup [] ∧ WeakI [p, k] ⟨τ.n, [], τ.objs, τ.ids⟩ ⟨τ.n, [], [(p, O3), (m, O4)], [m, p, k]⟩)
theorem spl_lendW (hTT : TTok P TT) {σ : AS} {Q : Exit → AS → Prop} {o : Oper} {r : List Oper} {x : Operand} {args : Array Operand} {ts : Array TypeId} {avs : List AV} {f : FuncId} {L : List AV} {fn : Func} {c : Code} (p k m : Nat) {O1 O2 O3 O4 : AObj}
    (ho : o.op = .call { callee := .value x, args := args, argTypes := ts }) (hd : dstOk σ o = true) (hwt : wantA σ ops o = some true) (havs : σ.evs args.toList = some avs) (hent : σ.entry x avs = some (f, L)) (hfn : fnB P f = true) (hf : P.funcs[f]? = some fn) (hb : fn.body = some c) (hle : L.length ≤ fn.ntmps)
    (hpk : k ≠ p) (hp : lk σ.objs p = some O1) (hk : lk σ.objs k = some O2) (hL : ∀ q ∈ idsL L, q = p) (c1 : ∀ q ∈ idsLL O1.xs, q = k) (c2 : idsLL O2.xs = []) (hm : m ∉ σ.ids) (h : LendW P TT fn c L p k m O1 O2 O3 O4) (hmp : m ≠ p) (hmk : m ≠ k)
    (K : SPL P B ops r (AS.put (σ.upd [(m, some O4), (p, some O3), (k, none)]) o.dst (.tup [])) Q) : SPL P B ops (o :: r) σ Q := by
  refine spl_lend hTT ho hd hwt havs hent hfn hf hb hle [(p, O1), (k, O2)] [p, k] (fun q => ?_) (fun q hq => by rw [hL q hq]; simp) (fun q hq ob hob i hi => ?_) (av := .tup []) rfl [(p, O3), (m, O4)] [m, p, k] (fun q hq => ?_) h ?_
  · simp only [lk, List.mem_cons, List.not_mem_nil, or_false]
    by_cases e1 : p = q
    · subst e1; simp [hp]
    · rw [if_neg e1]
      by_cases e2 : k = q
      · subst e2; simp [hk]
      · rw [if_neg e2, if_neg (fun hh => by rcases hh with hh | hh; exact e1 hh.symm; exact e2 hh.symm)]
  · simp only [List.mem_cons, List.not_mem_nil, or_false] at hq
    rcases hq with rfl | rfl
    · rw [hp] at hob; cases hob
      rw [c1 i hi]; simp
    · rw [hk] at hob; cases hob
      rw [c2] at hi; cases hi
  · simp only [List.mem_cons, List.not_mem_nil, or_false] at hq
    rcases hq with rfl | rfl | rfl
    · exact .inr hm
    · simp
    · simp
  · have e : [m, p, k].map (fun q => (q, lk [(p, O3), (m, O4)] q)) = [(m, some O4), (p, some O3), (k, none)] := by
      simp [lk, hmp, hmk, hmp.symm, hpk, hpk.symm, hmk.symm]
    rw [e]; exact K
end
def numB (n : Nat) : List Int := if n < 128 then [(n : Int)] else ((n % 128 + 128 : Nat) : Int) :: numB (n / 128)
termination_by n
decreasing_by omega
theorem numB_lt {n : Nat} (h : n < 128) : numB n = [(n : Int)] := by rw [numB, if_pos h]
theorem numB_ge {n : Nat} (h : ¬ n < 128) : numB n = ((n % 128 + 128 : Nat) : Int) :: numB (n / 128) := by rw [numB, if_neg h]
def bO (b : List Int) : AObj := ⟨5, 1, b.map fun x => [.v (.int .u8 x)]⟩
def wO (k n : Nat) : AObj := ⟨74, 1, [[.ref k 0 n]]⟩
theorem ids_bO (b : List Int) : idsLL (b.map fun x => [AV.v (.int .u8 x)]) = [] := by
  induction b with
  | nil => rfl
  | cons x b ih => simp [idsLL, idsL, AV.ids, ih]
theorem numB_len : ∀ (j n : Nat), n < 128 ^ (j + 1) → (numB n).length ≤ j + 1
  | 0, n, h => by rw [numB_lt (by simpa using h)]; simp
  | j + 1, n, h => by
    by_cases hn : n < 128
    · rw [numB_lt hn]; simp
    · rw [numB_ge hn]
      have : n / 128 < 128 ^ (j + 1) := by
        rw [Nat.div_lt_iff_lt_mul (by omega)]
        rw [Nat.pow_succ 128 (j + 1)] at h
        exact h
      have := numB_len j (n / 128) this
      simp; omega
@[simp ↓ high] theorem d_idsLL_b (b : List Int) : idsLL (b.map fun x => [AV.v (.int .u8 x)]) = [] := ids_bO b
@[simp ↓ high] theorem d_renLL_b (ρ : Nat → Nat) (b : List Int) : renLL ρ (b.map fun x => [AV.v (.int .u8 x)]) = b.map fun x => [AV.v (.int .u8 x)] := renLL_pure ρ _ (ids_bO b)
attribute [local simp] AV.ren renL
set_option maxHeartbeats 4000000 in
theorem number_lend (p k m n : Nat) (b : List Int) (hn : n < 4611686018427387904) (hb : b.length < 1000000000) (hp : p < 90000) (hk : k < 90000) (hm : m < 90000) (hkp : k ≠ p) (hmp : m ≠ p) (hmk : m ≠ k) :
    ∃ c, (Go.Proofs.Try.f80).body = some c ∧ LendW Try.prog TT Go.Proofs.Try.f80 c [.ptr p 0 0, .v (.int .i64 (n : Int))] p k m (wO k b.length) (bO b) (wO m (b ++ numB n).length) (bO (b ++ numB n)) := by
  refine ⟨_, rfl, fun B hI0 hro => ?_⟩
  rw [Try.ntmps80, Try.results80]
  simp only [enumA]
  have hnl : (numB n).length ≤ 9 := numB_len 8 n (by have : (128 : Nat) ^ (8 + 1) = 9223372036854775808 := by decide
                                                     omega)
  have htl : (b ++ numB n).length < 1000000100 := by rw [List.length_append]; omega
  obtain ⟨T, hT⟩ : ∃ T, b ++ numB n = T := ⟨_, rfl⟩
  rw [hT] at htl ⊢
  unfold wO bO
  have e1 : ¬ p = k := fun h => hkp h.symm
  have e2 : ¬ p = m := fun h => hmp h.symm
  have e3 : ¬ k = m := fun h => hmk h.symm
  have f1 : ¬ 90001 = p := by omega
  have f2 : ¬ 90001 = k := by omega
  have f3 : ¬ 90001 = m := by omega
  have f4 : ¬ 90002 = p := by omega
  have f5 : ¬ 90002 = k := by omega
  have f6 : ¬ 90002 = m := by omega
  have g1 : ¬ p = 90001 := by omega
  have g2 : ¬ k = 90001 := by omega
  have g3 : ¬ m = 90001 := by omega
  have g4 : ¬ p = 90002 := by omega
  have g5 : ¬ k = 90002 := by omega
  have g6 : ¬ m = 90002 := by omega
  refine amStr (h := ?_)
  refine s_loopI hI0 (J := fun x : {x : List Int × Nat // x.1 ++ numB x.2 = T ∧ x.2 < 4611686018427387904} => ⟨32, [(0, .ptr p 0 0), (1, .v (.int .i64 (x.1.2 : Int)))], [(p, ⟨74, 1, [[.ref m 0 x.1.1.length]]⟩), (m, ⟨5, 1, x.1.1.map fun x => [.v (.int .u8 x)]⟩)], [m, p, k]⟩) (μ := fun x => x.1.2) ⟨(b, n), hT, hn⟩ ?_ (fun ⟨⟨d, y⟩, hd, hy⟩ => ?_)
  · (refine weakI_of (fun i => if i = m then k else i) ⟨rfl, ?_, ?_, ?_⟩ ?_ <;> ((try simp only [List.mem_cons, List.not_mem_nil, or_false, forall_eq_or_imp, forall_eq]); (try simp (disch := omega) [lk, AV.ids, idsL, idsLL, AV.ren, renL, renLL, i64w, *])))
  dsimp only at hd hy
  dsimp only
  have hdl : d.length ≤ T.length := by rw [← hd]; simp
  have c1 : d.length + 1 ≤ 140737488355328 := by omega
  by_cases h128 : y < 128
  · have h1 : (y : Int) < 128 := by omega
    have h2 : ¬ ((128 : Int) ≤ (y : Int)) := by omega
    have hu1 : IntKind.u8.wrap (y : Int) = (y : Int) := by rw [IntKind.wrap_u8]; omega
    have hn1 := numB_lt h128
    rw [hn1] at hd
    refine amStr (h := ?_)
    refine amReg PT1_ok (h := ?_)
    refine amStr (h := ?_)
    refine s_regionL ?_
    ((iterate 7 (((with_reducible refine spl_step TT_ok PT1_ok (id := 0) (σ' := ?_) ?_ ?_); rotate_left; (focus (simp [*]; rfl))))))
    (((with_reducible refine spl_step TT_ok PT1_ok (id := 90001) (σ' := ?_) ?_ ?_); rotate_left; (focus (simp [*]; rfl))))
    (((with_reducible refine spl_step TT_ok PT1_ok (id := 90002) (σ' := ?_) ?_ ?_); rotate_left; (focus (simp [*]; rfl))))
    ((iterate 3 (((with_reducible refine spl_step TT_ok PT1_ok (id := 0) (σ' := ?_) ?_ ?_); rotate_left; (focus (simp [*]; rfl))))))
    refine spl_nil ?_
    refine amStr (h := ?_)
    refine ⟨.inl rfl, _, rfl, rfl, ?_⟩
    have hTl : T.length = d.length + 1 := by rw [← hd]; simp
    have hTm : d.map (fun x => [AV.v (.int .u8 x)]) ++ [[.v (.int .u8 (y : Int))]] = T.map (fun x => [AV.v (.int .u8 x)]) := by rw [← hd]; simp
    rw [hTl]
    (refine weakI_of (fun i => if i = m then 90002 else i) ⟨rfl, ?_, ?_, ?_⟩ ?_ <;> ((try simp only [List.mem_cons, List.not_mem_nil, or_false, forall_eq_or_imp, forall_eq]); (try simp (disch := omega) [lk, AV.ids, idsL, idsLL, AV.ren, renL, renLL, i64w, *])))
  · have h1 : ¬ ((y : Int) < 128) := by omega
    have h2 : (128 : Int) ≤ (y : Int) := by omega
    have hr1 : Int.tmod (y : Int) 128 = ((y % 128 : Nat) : Int) := by rw [Int.tmod_eq_emod_of_nonneg (by omega)]; omega
    have hq1 : Int.tdiv (y : Int) 128 = ((y / 128 : Nat) : Int) := by rw [Int.tdiv_eq_ediv_of_nonneg (by omega)]; omega
    obtain ⟨R, hR⟩ : ∃ R : Nat, y % 128 = R := ⟨_, rfl⟩
    obtain ⟨Z, hZ⟩ : ∃ Z : Nat, y / 128 = Z := ⟨_, rfl⟩
    have hR2 : R < 128 := by omega
    have hn1 := numB_ge h128
    rw [hR, hZ] at hn1
    rw [hR] at hr1
    rw [hZ] at hq1
    have hw1 : IntKind.i64.wrap ((R : Int) + 128) = (R : Int) + 128 := i64w (by omega) (by omega)
    have hu1 : IntKind.u8.wrap ((R : Int) + 128) = (R : Int) + 128 := by rw [IntKind.wrap_u8]; omega
    have hd2 : (d ++ [(R : Int) + 128]) ++ numB Z = T := by rw [← hd, hn1]; simp
    clear hn1 hR
    refine amStr (h := ?_)
    refine amReg PT1_ok (h := ?_)
    refine amStr (h := ?_)
    refine s_regionL ?_
    ((iterate 9 (((with_reducible refine spl_step TT_ok PT1_ok (id := 0) (σ' := ?_) ?_ ?_); rotate_left; (focus (simp [*]; rfl))))))
    (((with_reducible refine spl_step TT_ok PT1_ok (id := 90001) (σ' := ?_) ?_ ?_); rotate_left; (focus (simp [*]; rfl))))
    (((with_reducible refine spl_step TT_ok PT1_ok (id := 90002) (σ' := ?_) ?_ ?_); rotate_left; (focus (simp [*]; rfl))))
    ((iterate 3 (((with_reducible refine spl_step TT_ok PT1_ok (id := 0) (σ' := ?_) ?_ ?_); rotate_left; (focus (simp [*]; rfl))))))
    refine spl_nil ?_
    refine amStr (h := ?_)
    refine amReg PT1_ok (h := ?_)
    refine amStr (h := ?_)
    refine ki_lp (⟨(d ++ [(R : Int) + 128], Z), hd2, by omega⟩ : {x : List Int × Nat // x.1 ++ numB x.2 = T ∧ x.2 < 4611686018427387904}) (by dsimp only; omega) ?_
    dsimp only
    have hml : (d ++ [(R : Int) + 128]).length = d.length + 1 := by simp
    have hmm : d.map (fun x => [AV.v (.int .u8 x)]) ++ [[.v (.int .u8 ((R : Int) + 128))]] = (d ++ [(R : Int) + 128]).map (fun x => [AV.v (.int .u8 x)]) := by simp
    obtain ⟨d2, hd2e⟩ : ∃ d2, d ++ [(R : Int) + 128] = d2 := ⟨_, rfl⟩
    rw [hd2e] at hml hmm ⊢
    rw [hml]
    (refine weakI_of (fun i => if i = m then 90002 else i) ⟨rfl, ?_, ?_, ?_⟩ ?_ <;> ((try simp only [List.mem_cons, List.not_mem_nil, or_false, forall_eq_or_imp, forall_eq]); (try simp (disch := omega) [lk, AV.ids, idsL, idsLL, AV.ren, renL, renLL, i64w, *])))
end Go.Proofs.Ythdjgcjpolpgdaa
