/- The reference's reader of numbers; no condition. -/
import Derived.Test.YthdjgcjpolpgdaaRl22
import Derived.Test.YthdjgcjpolpgdaaWa
namespace Go.Proofs.Ythdjgcjpolpgdaa
set_option linter.unusedVariables false
set_option linter.unusedSimpArgs false
set_option linter.unusedSectionVars false
open Go.RowKit
attribute [local simp] List.getD_cons_zero List.getD_cons_succ List.getD_nil undef gvars runL runE effA stepA dstOk wantA core lk st dl AS.ev AS.evs AS.put AS.upd updO updI nxt cPick cAlloc cBox cBuild cBuildS cLoad cStore cNil plainOf cBin cNilS isNilS nilA cUn cConvX cConvB cConv bytesOf rowB cMake cSlice slA idxA cFA cF cIA cIX cIS cI cExt cLen cApp cMM cFun cCall lenA lenM isNilM nilM cNilM cMakeM hintB cMapK cLook foundR lookR cUpd putM cDel delM findA isKeyB Instr.sameNow AS.entry AS.bound AS.callee sc1 sc2 ixOk ldA AV.flat AV.cell AV.cells Value.oneCell' fillA spl chunk zeros AS.parts AS.rows AS.shut AS.shut1 AS.shut2 AS.shutL AS.shutM AV.ids idsL idsLL eqAll bndA AV.scalar AV.scalar1 AV.isV Ef.app Ef.pk ptOf pntO wrO wr
attribute [-simp] List.getD_eq_getElem?_getD
set_option maxRecDepth 100000
def nfG (b : List Int) (bad : Bool) : Nat → Nat → Nat → Nat → Nat × Nat × Bool
  | 0, a, _, _ => (0, a, true)
  | f + 1, a, v, o => if a < b.length then (if b.getD a 0 < 128 then (v + (b.getD a 0).toNat % 128 * o, a + 1, bad) else nfG b bad f (a + 1) (v + (b.getD a 0).toNat % 128 * o) (o * 128)) else (0, a, true)
theorem nfG_end {b : List Int} {bad : Bool} {f a v o : Nat} (h : ¬ a < b.length) : nfG b bad f a v o = (0, a, true) := by
  cases f with
  | zero => rfl
  | succ f => rw [nfG, if_neg h]
def nfR (b : List Int) (s : Nat × Bool) : Nat × Nat × Bool := nfG b s.2 4 s.1 0 1
def fO (b : List Int) (s : Nat × Bool) : AObj := ⟨94, 3, [[.sl 1 (b.map fun x => [.v (.int .u8 x)]), .v (.int .i64 (s.1 : Int)), .v (.bool s.2)]]⟩
theorem ids_fO (b : List Int) (s : Nat × Bool) : idsLL (fO b s).xs = [] := by simp [fO, idsLL, idsL, AV.ids]
theorem nfG_ok (b : List Int) (bad : Bool) : ∀ f a v k, f + k ≤ 4 → v < 128 ^ k → a ≤ b.length → (nfG b bad f a v (128 ^ k)).1 < 128 ^ (k + f) ∧ a ≤ (nfG b bad f a v (128 ^ k)).2.1 ∧ (nfG b bad f a v (128 ^ k)).2.1 ≤ b.length ∧ ((nfG b bad f a v (128 ^ k)).2.2 = false → a < (nfG b bad f a v (128 ^ k)).2.1)
  | 0, a, v, k, _, hv, hb => by
    unfold nfG
    exact ⟨Nat.pow_pos (by omega), Nat.le_refl _, hb, fun h => by cases h⟩
  | f + 1, a, v, k, hk, hv, hb => by
    have h1 : v + (b.getD a 0).toNat % 128 * 128 ^ k < 128 ^ (k + 1) := by
      have := Nat.mul_le_mul (show (b.getD a 0).toNat % 128 + 1 ≤ 128 by omega) (Nat.le_refl (128 ^ k))
      rw [Nat.add_mul, Nat.one_mul] at this
      rw [Nat.pow_succ, Nat.mul_comm (128 ^ k)]
      omega
    rw [nfG]
    split
    · split
      · exact ⟨Nat.lt_of_lt_of_le h1 (Nat.pow_le_pow_right (by omega) (by omega)), by dsimp only; omega, by dsimp only; omega, fun _ => by dsimp only; omega⟩
      · have := nfG_ok b bad f (a + 1) _ (k + 1) (by omega) h1 (by omega)
        rw [show k + 1 + f = k + (f + 1) by omega, Nat.pow_succ] at this
        exact ⟨this.1, by omega, this.2.2.1, fun h => by have := this.2.2.2 h; omega⟩
    · exact ⟨Nat.pow_pos (by omega), Nat.le_refl _, hb, fun h => by cases h⟩
theorem nfR_ok (b : List Int) (s : Nat × Bool) (h : s.1 ≤ b.length) : (nfR b s).1 < 268435456 ∧ s.1 ≤ (nfR b s).2.1 ∧ (nfR b s).2.1 ≤ b.length ∧ ((nfR b s).2.2 = false → s.1 < (nfR b s).2.1) := nfG_ok b s.2 4 s.1 0 0 (by omega) (by decide) h
attribute [local simp] AV.ren renL
set_option maxHeartbeats 4000000 in
theorem fnumber_lend (b : List Int) (s : Nat × Bool) (hb : okBy b = true) (hl : b.length ≤ maxB) (hs : s.1 ≤ b.length) :
    ∃ c, (Go.Proofs.Try.f68).body = some c ∧ LendR Try.prog TT Go.Proofs.Try.f68 c [.ptr 7 0 0] 7 (fO b s) (.v (.int .i64 ((nfR b s).1 : Int))) (fO b (nfR b s).2) := by
  refine ⟨_, rfl, fun B hI0 hro => ?_⟩
  rw [Try.ntmps68, Try.results68]
  simp only [enumA]
  have hmax : maxB = 16777216 := rfl
  obtain ⟨a0, bad⟩ := s
  obtain ⟨R, hR⟩ : ∃ R, nfR b (a0, bad) = R := ⟨_, rfl⟩
  rw [hR]
  unfold fO
  dsimp only at hs ⊢
  have hlm : (b.map fun x => [AV.v (.int .u8 x)]).length = b.length := List.length_map _
  refine amStr (h := ?_)
  refine amReg PT112_ok (h := ?_)
  refine amStr (h := ?_)
  refine amReg PT112_ok (h := ?_)
  refine amStr (h := ?_)
  refine amReg PT112_ok (h := ?_)
  refine amStr (h := ?_)
  refine s_loopI hI0 (J := fun x : {x : Nat × Nat × Nat × Nat // nfG b bad (4 - x.1) x.2.1 x.2.2.1 x.2.2.2 = R ∧ x.1 ≤ 4 ∧ x.2.2.1 < x.2.2.2 ∧ 128 ^ x.1 = x.2.2.2 ∧ x.2.1 ≤ b.length} => ⟨55, [(0, .ptr 7 0 0), (3, .v (.int .i64 (x.1.2.2.1 : Int))), (4, .v (.int .i64 (x.1.2.2.2 : Int))), (5, .v (.int .i64 (x.1.1 : Int)))], [(7, ⟨94, 3, [[.sl 1 (b.map fun x => [.v (.int .u8 x)]), .v (.int .i64 (x.1.2.1 : Int)), .v (.bool bad)]]⟩)], [7]⟩) (μ := fun x => 4 - x.1.1) ⟨(0, a0, 0, 1), hR, Nat.zero_le _, Nat.one_pos, rfl, hs⟩ ?_ (fun ⟨⟨k, a, v, o⟩, hx, hk4, hv, ho, ha⟩ => ?_)
  · (refine weakI_of (fun i => i) ⟨rfl, ?_, ?_, ?_⟩ ?_ <;> ((try simp only [List.mem_cons, List.not_mem_nil, or_false, forall_eq_or_imp, forall_eq]); (try simp (disch := omega) [lk, AV.ids, idsL, idsLL, AV.ren, renL, renLL, i64w, *])))
  dsimp only at hx hk4 hv ho ha
  dsimp only
  by_cases hk3 : k < 4
  · have i2 : (k : Int) < 4 := by omega
    by_cases hkb : a < b.length
    · have i1 : (a : Int) < (b.length : Int) := by omega
      obtain ⟨f, hf⟩ : ∃ f, 4 - k = f + 1 := ⟨3 - k, by omega⟩
      rw [hf, nfG, if_pos hkb] at hx
      have hcr := okBy_at hb hkb
      obtain ⟨c, hc⟩ : ∃ c, b.getD a 0 = c := ⟨_, rfl⟩
      rw [hc] at hx hcr
      have hgc : (b.map fun x => [AV.v (.int .u8 x)]).getD a [] = [.v (.int .u8 c)] := by
        rw [← hc]; simp [List.getD, hkb]
      have hw0 : IntKind.i64.wrap c = c := i64w (by omega) (by omega)
      have hr0 : Int.tmod c 128 = ((c.toNat % 128 : Nat) : Int) := by rw [Int.tmod_eq_emod_of_nonneg (by omega)]; omega
      obtain ⟨m, hm⟩ : ∃ m, c.toNat % 128 = m := ⟨_, rfl⟩
      rw [hm] at hr0 hx
      have hm128 : m < 128 := by omega
      have h128 : o ≤ 2097152 := by
        rw [← ho]
        rcases (by omega : k = 0 ∨ k = 1 ∨ k = 2 ∨ k = 3) with rfl | rfl | rfl | rfl <;> decide
      have ho0 : 1 ≤ o := by omega
      obtain ⟨M, hM⟩ : ∃ M : Nat, m * o = M := ⟨_, rfl⟩
      have hMs : (m : Int) * (o : Int) = (M : Int) := by rw [← hM, Int.natCast_mul]
      have hM28 : M ≤ 127 * 2097152 := by rw [← hM]; exact Nat.mul_le_mul (by omega) h128
      have hwM : IntKind.i64.wrap (M : Int) = M := i64n M (by omega)
      have hwN : IntKind.i64.wrap ((v : Int) + (M : Int)) = (v : Int) + (M : Int) := i64w (by omega) (by omega)
      have hwo : IntKind.i64.wrap ((o : Int) * 128) = (o : Int) * 128 := i64w (by omega) (by omega)
      have hwa : IntKind.i64.wrap ((a : Int) + 1) = (a : Int) + 1 := i64s a (by omega)
      have hwk : IntKind.i64.wrap ((k : Int) + 1) = (k : Int) + 1 := i64s k (by omega)
      have hN1 : v + M < o * 128 := by
        have := Nat.mul_le_mul (show m + 1 ≤ 128 by omega) (Nat.le_refl o)
        rw [Nat.add_mul, Nat.one_mul] at this
        omega
      rw [hM] at hx
      clear hM hm
      have ho2 : 128 ^ (k + 1) = o * 128 := by rw [Nat.pow_succ, ho]
      refine amStr (h := ?_)
      refine amDrw PT112_ok (h := ?_)
      refine amStr (h := ?_)
      refine amDrw PT112_ok (h := ?_)
      refine amStr (h := ?_)
      refine amReg PT112_ok (h := ?_)
      refine amStr (h := ?_)
      refine amReg PT112_ok (h := ?_)
      refine amStr (h := ?_)
      refine amReg PT112_ok (h := ?_)
      refine amStr (h := ?_)
      refine amReg PT112_ok (h := ?_)
      refine amStr (h := ?_)
      by_cases hcl : c < 128
      · rw [if_pos hcl] at hx
        subst hx
        clear hR
        refine amStr (h := ?_)
        refine amReg PT112_ok (h := ?_)
        refine amStr (h := ?_)
        refine ⟨.inr rfl, _, rfl, rfl, ?_⟩
        (refine weakI_of (fun i => i) ⟨rfl, ?_, ?_, ?_⟩ ?_ <;> ((try simp only [List.mem_cons, List.not_mem_nil, or_false, forall_eq_or_imp, forall_eq]); (try simp (disch := omega) [lk, AV.ids, idsL, idsLL, AV.ren, renL, renLL, i64w, *])))
      · rw [if_neg hcl] at hx
        refine amStr (h := ?_)
        refine amReg PT112_ok (h := ?_)
        refine amStr (h := ?_)
        refine ki_lp (⟨(k + 1, a + 1, v + M, o * 128), by rw [show 4 - (k + 1) = f by omega]; exact hx, by dsimp only; omega, hN1, ho2, by dsimp only; omega⟩ : {x : Nat × Nat × Nat × Nat // nfG b bad (4 - x.1) x.2.1 x.2.2.1 x.2.2.2 = R ∧ x.1 ≤ 4 ∧ x.2.2.1 < x.2.2.2 ∧ 128 ^ x.1 = x.2.2.2 ∧ x.2.1 ≤ b.length}) (by dsimp only; omega) ?_
        dsimp only
        (refine weakI_of (fun i => i) ⟨rfl, ?_, ?_, ?_⟩ ?_ <;> ((try simp only [List.mem_cons, List.not_mem_nil, or_false, forall_eq_or_imp, forall_eq]); (try simp (disch := omega) [lk, AV.ids, idsL, idsLL, AV.ren, renL, renLL, i64w, *])))
    · rw [nfG_end hkb] at hx
      subst hx
      have i1 : ¬ ((a : Int) < (b.length : Int)) := by omega
      clear hR
      refine amStr (h := ?_)
      refine amDrw PT112_ok (h := ?_)
      refine amStr (h := ?_)
      refine amReg PT112_ok (h := ?_)
      refine amStr (h := ?_)
      refine amReg PT112_ok (h := ?_)
      refine amStr (h := ?_)
      refine ⟨.inr rfl, _, rfl, rfl, ?_⟩
      (refine weakI_of (fun i => i) ⟨rfl, ?_, ?_, ?_⟩ ?_ <;> ((try simp only [List.mem_cons, List.not_mem_nil, or_false, forall_eq_or_imp, forall_eq]); (try simp (disch := omega) [lk, AV.ids, idsL, idsLL, AV.ren, renL, renLL, i64w, *])))
  · obtain rfl : k = 4 := by omega
    have hx2 : (0, a, true) = R := hx
    subst hx2
    clear hR
    refine amStr (h := ?_)
    refine amDrw PT112_ok (h := ?_)
    refine amStr (h := ?_)
    refine amReg PT112_ok (h := ?_)
    refine amStr (h := ?_)
    refine amReg PT112_ok (h := ?_)
    refine amStr (h := ?_)
    refine ⟨.inr rfl, _, rfl, rfl, ?_⟩
    (refine weakI_of (fun i => i) ⟨rfl, ?_, ?_, ?_⟩ ?_ <;> ((try simp only [List.mem_cons, List.not_mem_nil, or_false, forall_eq_or_imp, forall_eq]); (try simp (disch := omega) [lk, AV.ids, idsL, idsLL, AV.ren, renL, renLL, i64w, *])))
end Go.Proofs.Ythdjgcjpolpgdaa
