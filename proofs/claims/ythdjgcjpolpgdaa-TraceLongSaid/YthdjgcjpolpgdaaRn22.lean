/- A reader of bytes on the abstract machine: it is lent to a call; numbers and literals are read; no condition. -/
import Derived.Test.YthdjgcjpolpgdaaCd22
import Derived.Test.YthdjgcjpolpgdaaWa
namespace Go.Proofs.Ythdjgcjpolpgdaa
set_option linter.unusedVariables false
set_option linter.unusedSimpArgs false
set_option linter.unusedSectionVars false
open Go.RowKit
attribute [local simp] List.getD_cons_zero List.getD_cons_succ List.getD_nil undef gvars runL runE effA stepA dstOk wantA core lk st dl AS.ev AS.evs AS.put AS.upd updO updI nxt cPick cAlloc cBox cBuild cBuildS cLoad cStore cNil plainOf cBin cNilS isNilS nilA cUn cConvX cConvB cConv bytesOf rowB cMake cSlice slA idxA cFA cF cIA cIX cIS cI cExt cLen cApp cMM cFun cCall lenA lenM isNilM nilM cNilM cMakeM hintB cMapK cLook foundR lookR cUpd putM cDel delM findA isKeyB Instr.sameNow AS.entry AS.bound AS.callee sc1 sc2 ixOk ldA AV.flat AV.cell AV.cells Value.oneCell' fillA spl chunk zeros AS.parts AS.rows AS.shut AS.shut1 AS.shut2 AS.shutL AS.shutM AV.ids idsL idsLL eqAll bndA AV.scalar AV.scalar1 AV.isV Ef.app Ef.pk ptOf pntO wrO wr
attribute [-simp] List.getD_eq_getElem?_getD
set_option maxRecDepth 100000
section
variable {P : Program} {TT : TTab} {B : Base} {ops : Array Oper}
def LendR (P : Program) (TT : TTab) (fn : Func) (c : Code) (L : List AV) (p : Nat) (O1 : AObj) (av : AV) (O2 : AObj) : Prop :=
  ∀ B' : Base, B'.I0 = [p] → B'.ro = none → SP P B' c ⟨fn.ntmps, enumA 0 L, [(p, O1)], [p]⟩ (fun e τ => (e = .normal ∨ e = .ret) ∧ ∃ av', retA TT τ fn.results.toList = some av' ∧ av' = av ∧ WeakI [p] ⟨τ.n, [], τ.objs, τ.ids⟩ ⟨τ.n, [], [(p, O2)], [p]⟩)
theorem spl_lendR (hTT : TTok P TT) {σ : AS} {Q : Exit → AS → Prop} {o : Oper} {r : List Oper} {x : Operand} {args : Array Operand} {ts : Array TypeId} {avs : List AV} {f : FuncId} {L : List AV} {fn : Func} {c : Code} (p : Nat) {O1 O2 : AObj} {av : AV}
    (ho : o.op = .call { callee := .value x, args := args, argTypes := ts }) (hd : dstOk σ o = true) (hwt : wantA σ ops o = some true) (havs : σ.evs args.toList = some avs) (hent : σ.entry x avs = some (f, L)) (hfn : fnB P f = true) (hf : P.funcs[f]? = some fn) (hb : fn.body = some c) (hle : L.length ≤ fn.ntmps)
    (hp : lk σ.objs p = some O1) (hL : ∀ q ∈ idsL L, q = p) (c1 : idsLL O1.xs = []) (hav : av.ids = []) (h : LendR P TT fn c L p O1 av O2)
    (K : SPL P B ops r (AS.put (σ.upd [(p, some O2)]) o.dst av) Q) : SPL P B ops (o :: r) σ Q := by
  refine spl_lend hTT ho hd hwt havs hent hfn hf hb hle [(p, O1)] [p] (fun q => ?_) (fun q hq => by rw [hL q hq]; simp) (fun q hq ob hob i hi => ?_) (av := av) hav [(p, O2)] [p] (fun q hq => .inl hq) h ?_
  · simp only [lk, List.mem_cons, List.not_mem_nil, or_false]
    by_cases e1 : p = q
    · subst e1; simp [hp]
    · rw [if_neg e1, if_neg (fun hh => e1 hh.symm)]
  · simp only [List.mem_cons, List.not_mem_nil, or_false] at hq
    subst hq
    rw [hp] at hob; cases hob
    rw [c1] at hi; cases hi
  · simpa [lk] using K
end
def LendX (P : Program) (TT : TTab) (fn : Func) (c : Code) (L : List AV) (p : Nat) (O1 : AObj) (av : AV) (O2 : AObj) : Prop :=
  ∀ B' : Base, B'.I0 = [p] → B'.ro = none → SP P B' c ⟨fn.ntmps, enumA 0 L, [(p, O1)], [p]⟩ (fun e τ => (e = .normal ∨ e = .ret) ∧ ∃ av', retA TT τ fn.results.toList = some av' ∧ av' = av ∧ (∀ k, lk τ.objs k = if k = p then some O2 else none) ∧ ∀ k, k ∈ τ.ids ↔ k ∈ [p])
theorem LendX.toR {P : Program} {TT : TTab} {fn : Func} {c : Code} {L : List AV} {p : Nat} {O1 O2 : AObj} {av : AV} (hc : idsLL O2.xs = []) (h : LendX P TT fn c L p O1 av O2) : LendR P TT fn c L p O1 av O2 := fun B' h1 h2 => by
  refine sp_mono (h B' h1 h2) fun e τ hq => ?_
  obtain ⟨he, av', g1, g2, g3, g4⟩ := hq
  refine ⟨he, av', g1, g2, rfl, id, fun t av ht => (by cases ht), fun k ob hk => ?_, fun k ob k' ob' hk hk' e => e, fun k hk => ⟨rfl, hk⟩⟩
  simp only [lk] at hk
  split at hk
  · rename_i e
    cases hk
    subst e
    refine ⟨by rw [renLL_pure id _ hc]; simpa using g3 p, by simp, fun q hq => by rw [hc] at hq; cases hq⟩
  · cases hk
def numG (b : List Int) (bad : Bool) : Nat → Nat → Nat → Nat × List Int × Bool
  | 0, _, _ => (0, b, true)
  | f + 1, k, v => if k < b.length then (if b.getD k 0 < 128 then (v + (b.getD k 0).toNat % 128 * 128 ^ k, b.drop (k + 1), bad || (decide (b.getD k 0 = 0) && decide (0 < k))) else numG b bad f (k + 1) (v + (b.getD k 0).toNat % 128 * 128 ^ k)) else (0, b, true)
theorem numG_end {b : List Int} {bad : Bool} {f k v : Nat} (h : ¬ k < b.length) : numG b bad f k v = (0, b, true) := by
  cases f with
  | zero => rfl
  | succ f => rw [numG, if_neg h]
def numR (b : List Int) (bad : Bool) : Nat × List Int × Bool := numG b bad 4 0 0
def rO (b : List Int) (bad : Bool) : AObj := ⟨89, 2, [[.sl 1 (b.map fun x => [.v (.int .u8 x)]), .v (.bool bad)]]⟩
def okBy (xs : List Int) : Bool := xs.all fun x => decide (0 ≤ x) && decide (x < 256)
theorem okBy_at {xs : List Int} (h : okBy xs = true) {k : Nat} (hk : k < xs.length) : 0 ≤ xs.getD k 0 ∧ xs.getD k 0 < 256 := by
  have := List.all_eq_true.1 h _ (getD_memI hk)
  simpa using this
attribute [local simp] AV.ren renL
set_option maxHeartbeats 4000000 in
theorem rnumber_exact (p : Nat) (b : List Int) (bad : Bool) (hb : okBy b = true) (hl : b.length ≤ maxB) (hp : p < 90000) :
    ∃ c, (Go.Proofs.Try.f91).body = some c ∧ LendX Try.prog TT Go.Proofs.Try.f91 c [.ptr p 0 0] p (rO b bad) (.v (.int .i64 ((numR b bad).1 : Int))) (rO (numR b bad).2.1 (numR b bad).2.2) := by
  refine ⟨_, rfl, fun B hI0 hro => ?_⟩
  rw [Try.ntmps91, Try.results91]
  simp only [enumA]
  have hmax : maxB = 16777216 := rfl
  obtain ⟨R, hR⟩ : ∃ R, numR b bad = R := ⟨_, rfl⟩
  rw [hR]
  unfold rO
  refine amStr (h := ?_)
  refine amReg PT1_ok (h := ?_)
  refine amStr (h := ?_)
  refine amReg PT1_ok (h := ?_)
  refine amStr (h := ?_)
  refine amReg PT1_ok (h := ?_)
  refine amStr (h := ?_)
  refine s_loopI hI0 (J := fun x : {x : Nat × Nat // numG b bad (4 - x.1) x.1 x.2 = R ∧ x.1 ≤ 4 ∧ x.2 < 128 ^ x.1} => ⟨66, [(0, .ptr p 0 0), (3, .v (.int .i64 (x.1.2 : Int))), (4, .v (.int .i64 (x.1.1 : Int)))], [(p, ⟨89, 2, [[.sl 1 (b.map fun x => [.v (.int .u8 x)]), .v (.bool bad)]]⟩)], [p]⟩) (μ := fun x => 4 - x.1.1) ⟨(0, 0), hR, by decide, by decide⟩ ?_ (fun ⟨⟨k, v⟩, hx, hk4, hv⟩ => ?_)
  · (refine weakI_of (fun i => i) ⟨rfl, ?_, ?_, ?_⟩ ?_ <;> ((try simp only [List.mem_cons, List.not_mem_nil, or_false, forall_eq_or_imp, forall_eq]); (try simp (disch := omega) [lk, AV.ids, idsL, idsLL, AV.ren, renL, renLL, i64w, *])))
  dsimp only at hx hk4 hv
  dsimp only
  have hlm : (b.map fun x => [AV.v (.int .u8 x)]).length = b.length := List.length_map _
  by_cases hkb : k < b.length
  · by_cases hk3 : k < 4
    · have i1 : (k : Int) < (b.length : Int) := by omega
      have i2 : (k : Int) < 4 := by omega
      obtain ⟨f, hf⟩ : ∃ f, 4 - k = f + 1 := ⟨3 - k, by omega⟩
      rw [hf, numG, if_pos hkb] at hx
      have hcr := okBy_at hb hkb
      obtain ⟨c, hc⟩ : ∃ c, b.getD k 0 = c := ⟨_, rfl⟩
      rw [hc] at hx hcr
      have hgc : (b.map fun x => [AV.v (.int .u8 x)]).getD k [] = [.v (.int .u8 c)] := by
        rw [← hc]; simp [List.getD, hkb]
      have hw0 : IntKind.i64.wrap c = c := i64w (by omega) (by omega)
      have hr0 : Int.tmod c 128 = ((c.toNat % 128 : Nat) : Int) := by rw [Int.tmod_eq_emod_of_nonneg (by omega)]; omega
      obtain ⟨m, hm⟩ : ∃ m, c.toNat % 128 = m := ⟨_, rfl⟩
      rw [hm] at hr0 hx
      have hm128 : m < 128 := by omega
      clear hm
      obtain ⟨s, hs⟩ : ∃ s, 7 * k = s := ⟨_, rfl⟩
      have hs7 : (7 : Int) * (k : Int) = (s : Int) := by omega
      have hs21 : s ≤ 21 := by omega
      have hws : IntKind.i64.wrap (s : Int) = s := i64n s (by omega)
      have hwu : IntKind.u64.wrap (s : Int) = s := by rw [IntKind.wrap_u64]; omega
      have hmin : min s IntKind.i64.bits = s := by show min s 64 = s; omega
      obtain ⟨M, hM⟩ : ∃ M : Nat, m * 128 ^ k = M := ⟨_, rfl⟩
      have hpw : 128 ^ k = 2 ^ s := by rw [← hs, Nat.pow_mul]
      have hMs : (m : Int) * 2 ^ s = (M : Int) := by
        rw [← hM, hpw, Int.natCast_mul, Int.natCast_pow]; rfl
      have h128 : 128 ^ k ≤ 2097152 := by
        rcases (by omega : k = 0 ∨ k = 1 ∨ k = 2 ∨ k = 3) with rfl | rfl | rfl | rfl <;> decide
      have hM28 : M ≤ 127 * 2097152 := by rw [← hM]; exact Nat.mul_le_mul (by omega) h128
      have hwM : IntKind.i64.wrap (M : Int) = M := i64n M (by omega)
      obtain ⟨N, hN⟩ : ∃ N, v + M = N := ⟨_, rfl⟩
      have hor : v % 2 ^ IntKind.i64.bits ||| M % 2 ^ IntKind.i64.bits = N := by
        have hb64 : IntKind.i64.bits = 64 := rfl
        rw [hb64, Nat.mod_eq_of_lt (show v < 2 ^ 64 by omega), Nat.mod_eq_of_lt (show M < 2 ^ 64 by omega), ← hN, Nat.or_comm, Nat.add_comm]
        rw [hpw] at hv hM
        rw [← hM, ← Nat.shiftLeft_eq, Nat.shiftLeft_add_eq_or_of_lt hv]
      have hwN : IntKind.i64.wrap (N : Int) = N := i64n N (by omega)
      have hN1 : N < 128 ^ (k + 1) := by
        have := Nat.mul_le_mul (show m + 1 ≤ 128 by omega) (Nat.le_refl (128 ^ k))
        rw [Nat.add_mul, Nat.one_mul] at this
        rw [Nat.pow_succ, Nat.mul_comm (128 ^ k)]
        omega
      rw [hM, hN] at hx
      refine amStr (h := ?_)
      refine amReg PT1_ok (h := ?_)
      refine amStr (h := ?_)
      refine s_regionL ?_
      ((iterate 9 (((with_reducible refine spl_step TT_ok PT1_ok (id := 0) (σ' := ?_) ?_ ?_); rotate_left; (focus (simp [*]; rfl))))))
      refine spl_nil ?_
      refine amStr (h := ?_)
      refine s_regionL ?_
      ((iterate 9 (((with_reducible refine spl_step TT_ok PT1_ok (id := 0) (σ' := ?_) ?_ ?_); rotate_left; (focus (simp [*]; rfl))))))
      refine spl_nil ?_
      clear hM hN hMs hpw hor hwM hwN hws hwu hmin hs7 hs hr0
      refine amStr (h := ?_)
      refine amReg PT1_ok (h := ?_)
      refine amStr (h := ?_)
      have hw1 : IntKind.i64.wrap ((k : Int) + 1) = (k : Int) + 1 := i64s k (by omega)
      by_cases hcl : c < 128
      · rw [if_pos hcl] at hx
        obtain ⟨z, hz⟩ : ∃ z, decide (c = 0) = z := ⟨_, rfl⟩
        have hz1 : (c == 0) = z := hz
        obtain ⟨y, hy⟩ : ∃ y, decide (0 < k) = y := ⟨_, rfl⟩
        have hy1 : decide ((0 : Int) < (k : Int)) = y := by rw [← hy]; simp
        rw [hz, hy] at hx
        subst hx
        have hd : ((b.map fun x => [AV.v (.int .u8 x)]).drop (k + 1)).take (b.length - (k + 1)) = (b.map fun x => [AV.v (.int .u8 x)]).drop (k + 1) := List.take_of_length_le (by rw [List.length_drop, List.length_map]; omega)
        clear hR
        have hkl : (k : Int) + 1 ≤ (b.length : Int) := by omega
        have hkl0 : (0 : Int) ≤ (k : Int) + 1 := by omega
        have hkl1 : ((k : Int) + 1).toNat = k + 1 := by omega
        cases bad <;> cases z <;> cases y
        all_goals
          refine amStr (h := ?_)
          refine amReg PT1_ok (h := ?_)
          refine amStr (h := ?_)
          refine amReg PT1_ok (h := ?_)
          refine amStr (h := ?_)
          refine amReg PT1_ok (h := ?_)
          refine amStr (h := ?_)
          refine ⟨.inr rfl, _, rfl, rfl, fun k => ?_, fun k => Iff.rfl⟩
          by_cases h : p = k
          · subst h; simp [lk]
          · simp [lk, h, Ne.symm h]
      · rw [if_neg hcl] at hx
        refine amStr (h := ?_)
        refine amReg PT1_ok (h := ?_)
        refine amStr (h := ?_)
        refine ki_lp (⟨(k + 1, N), by rw [show 4 - (k + 1) = f by omega]; exact hx, by omega, hN1⟩ : {x : Nat × Nat // numG b bad (4 - x.1) x.1 x.2 = R ∧ x.1 ≤ 4 ∧ x.2 < 128 ^ x.1}) (by dsimp only; omega) ?_
        dsimp only
        (refine weakI_of (fun i => i) ⟨rfl, ?_, ?_, ?_⟩ ?_ <;> ((try simp only [List.mem_cons, List.not_mem_nil, or_false, forall_eq_or_imp, forall_eq]); (try simp (disch := omega) [lk, AV.ids, idsL, idsLL, AV.ren, renL, renLL, i64w, *])))
    · obtain rfl : k = 4 := by omega
      have hx2 : (0, b, true) = R := hx
      subst hx2
      have i1 : (4 : Int) < (b.length : Int) := by omega
      clear hR
      refine amStr (h := ?_)
      refine amReg PT1_ok (h := ?_)
      refine amStr (h := ?_)
      refine amReg PT1_ok (h := ?_)
      refine amStr (h := ?_)
      refine amReg PT1_ok (h := ?_)
      refine amStr (h := ?_)
      refine ⟨.inr rfl, _, rfl, rfl, fun k => ?_, fun k => Iff.rfl⟩
      by_cases h : p = k
      · subst h; simp [lk]
      · simp [lk, h, Ne.symm h]
  · rw [numG_end hkb] at hx
    subst hx
    have i1 : ¬ ((k : Int) < (b.length : Int)) := by omega
    clear hR
    refine amStr (h := ?_)
    refine amReg PT1_ok (h := ?_)
    refine amStr (h := ?_)
    refine amReg PT1_ok (h := ?_)
    refine amStr (h := ?_)
    refine amReg PT1_ok (h := ?_)
    refine amStr (h := ?_)
    refine ⟨.inr rfl, _, rfl, rfl, fun k => ?_, fun k => Iff.rfl⟩
    by_cases h : p = k
    · subst h; simp [lk]
    · simp [lk, h, Ne.symm h]
theorem ids_rO (b : List Int) (bad : Bool) : idsLL (rO b bad).xs = [] := by simp [rO, idsLL, idsL, AV.ids]
theorem rnumber_lend (p : Nat) (b : List Int) (bad : Bool) (hb : okBy b = true) (hl : b.length ≤ maxB) (hp : p < 90000) :
    ∃ c, (Go.Proofs.Try.f91).body = some c ∧ LendR Try.prog TT Go.Proofs.Try.f91 c [.ptr p 0 0] p (rO b bad) (.v (.int .i64 ((numR b bad).1 : Int))) (rO (numR b bad).2.1 (numR b bad).2.2) := by
  obtain ⟨c, h1, h2⟩ := rnumber_exact p b bad hb hl hp
  exact ⟨c, h1, h2.toR (ids_rO _ _)⟩
end Go.Proofs.Ythdjgcjpolpgdaa
