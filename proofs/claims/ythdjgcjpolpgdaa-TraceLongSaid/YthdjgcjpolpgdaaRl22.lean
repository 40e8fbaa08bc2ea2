/- trace.reader.literal, and trace.read of literals; no condition. -/
import Derived.Test.YthdjgcjpolpgdaaRn22
import Derived.Test.YthdjgcjpolpgdaaWa
namespace Go.Proofs.Ythdjgcjpolpgdaa
set_option linter.unusedVariables false
set_option linter.unusedSimpArgs false
set_option linter.unusedSectionVars false
open Go.RowKit
attribute [local simp] List.getD_cons_zero List.getD_cons_succ List.getD_nil undef gvars runL runE effA stepA dstOk wantA core lk st dl AS.ev AS.evs AS.put AS.upd updO updI nxt cPick cAlloc cBox cBuild cBuildS cLoad cStore cNil plainOf cBin cNilS isNilS nilA cUn cConvX cConvB cConv bytesOf rowB cMake cSlice slA idxA cFA cF cIA cIX cIS cI cExt cLen cApp cMM cFun cCall lenA lenM isNilM nilM cNilM cMakeM hintB cMapK cLook foundR lookR cUpd putM cDel delM findA isKeyB Instr.sameNow AS.entry AS.bound AS.callee sc1 sc2 ixOk ldA AV.flat AV.cell AV.cells Value.oneCell' fillA spl chunk zeros AS.parts AS.rows AS.shut AS.shut1 AS.shut2 AS.shutL AS.shutM AV.ids idsL idsLL eqAll bndA AV.scalar AV.scalar1 AV.isV Ef.app Ef.pk ptOf pntO wrO wr
attribute [-simp] List.getD_eq_getElem?_getD
set_option maxRecDepth 100000
theorem okBy_drop {b : List Int} (h : okBy b = true) (k : Nat) : okBy (b.drop k) = true :=
  List.all_eq_true.2 fun x hx => List.all_eq_true.1 h x (List.mem_of_mem_drop hx)
theorem numG_ok (b : List Int) (bad : Bool) : ∀ f k v, f + k ≤ 4 → v < 128 ^ k → okBy b = true → (numG b bad f k v).1 < 128 ^ (k + f) ∧ okBy (numG b bad f k v).2.1 = true ∧ (numG b bad f k v).2.1.length ≤ b.length
  | 0, k, v, _, hv, hb => by
    unfold numG
    exact ⟨Nat.pow_pos (by omega), hb, Nat.le_refl _⟩
  | f + 1, k, v, hk, hv, hb => by
    have h1 : v + (b.getD k 0).toNat % 128 * 128 ^ k < 128 ^ (k + 1) := by
      have := Nat.mul_le_mul (show (b.getD k 0).toNat % 128 + 1 ≤ 128 by omega) (Nat.le_refl (128 ^ k))
      rw [Nat.add_mul, Nat.one_mul] at this
      rw [Nat.pow_succ, Nat.mul_comm (128 ^ k)]
      omega
    rw [numG]
    split
    · split
      · refine ⟨Nat.lt_of_lt_of_le h1 (Nat.pow_le_pow_right (by omega) (by omega)), okBy_drop hb _, ?_⟩
        simp
      · have := numG_ok b bad f (k + 1) _ (by omega) h1 hb
        rw [show k + 1 + f = k + (f + 1) by omega] at this
        exact this
    · exact ⟨Nat.pow_pos (by omega), hb, Nat.le_refl _⟩
theorem numR_ok (b : List Int) (bad : Bool) (hb : okBy b = true) : (numR b bad).1 < 268435456 ∧ okBy (numR b bad).2.1 = true ∧ (numR b bad).2.1.length ≤ b.length := numG_ok b bad 4 0 0 (by omega) (by decide) hb
def litR (s : List Int × Bool) : Int × List Int × Bool := ((((numR s.1 s.2).1 / 2 : Nat) : Int) * (1 - (((numR s.1 s.2).1 % 2 : Nat) : Int) * 2), (numR s.1 s.2).2)
def rdLoop {S α : Type} (one : S → α × S) (bd : S → Bool) : Nat → List α → S → List α × S
  | 0, out, s => (out, s)
  | f + 1, out, s => if bd s = true then (out, s) else rdLoop one bd f (out ++ [(one s).1]) (one s).2
theorem rdLoop_end {S α : Type} {one : S → α × S} {bd : S → Bool} {f : Nat} {out : List α} {s : S} (h : bd s = true) : rdLoop one bd f out s = (out, s) := by
  cases f with
  | zero => rfl
  | succ f => rw [rdLoop, if_pos h]
def rdT (b : List Int) (bad : Bool) : List Int × List Int × Bool := rdLoop litR (fun s => s.2) (numR b bad).1 [] ((numR b bad).2.1, (numR b bad).2.2 || decide (128 < (numR b bad).1))
attribute [local simp] AV.ren renL
set_option maxHeartbeats 4000000 in
theorem rliteral_lend (p : Nat) (b : List Int) (bad : Bool) (hb : okBy b = true) (hl : b.length ≤ maxB) (hp : p < 90000) :
    ∃ c, (Go.Proofs.Try.f93).body = some c ∧ LendR Try.prog TT Go.Proofs.Try.f93 c [.ptr p 0 0] p (rO b bad) (.v (.int .i64 (litR (b, bad)).1)) (rO (litR (b, bad)).2.1 (litR (b, bad)).2.2) := by
  refine ⟨_, rfl, fun B hI0 hro => ?_⟩
  rw [Try.ntmps93, Try.results93]
  simp only [enumA]
  obtain ⟨cn, hcn, hnum⟩ := rnumber_lend p b bad hb hl hp
  obtain ⟨q1, _, _⟩ := numR_ok b bad hb
  unfold litR
  dsimp only
  obtain ⟨⟨n, b2, bad2⟩, hR⟩ : ∃ R, numR b bad = R := ⟨_, rfl⟩
  rw [hR] at hnum q1 ⊢
  dsimp only at hnum q1 ⊢
  have hq : Int.tdiv (n : Int) 2 = ((n / 2 : Nat) : Int) := by rw [Int.tdiv_eq_ediv_of_nonneg (by omega)]; omega
  have hr : Int.tmod (n : Int) 2 = ((n % 2 : Nat) : Int) := by rw [Int.tmod_eq_emod_of_nonneg (by omega)]; omega
  obtain ⟨h, hh⟩ : ∃ h, n / 2 = h := ⟨_, rfl⟩
  obtain ⟨r, hr2⟩ : ∃ r, n % 2 = r := ⟨_, rfl⟩
  rw [hh] at hq ⊢
  rw [hr2] at hr ⊢
  have hr1 : r < 2 := by omega
  have hh1 : h < 268435456 := by omega
  clear hh hr2
  have hwr : IntKind.i64.wrap ((r : Int) * 2) = (r : Int) * 2 := i64w (by omega) (by omega)
  have hw1 : IntKind.i64.wrap (1 - (r : Int) * 2) = 1 - (r : Int) * 2 := i64w (by omega) (by omega)
  have hwh : IntKind.i64.wrap (h : Int) = h := i64n h (by omega)
  have hwx : IntKind.i64.wrap ((h : Int) * (1 - (r : Int) * 2)) = (h : Int) * (1 - (r : Int) * 2) := by
    rcases (by omega : r = 0 ∨ r = 1) with rfl | rfl
    · exact i64w (by omega) (by omega)
    · exact i64w (by omega) (by omega)
  refine amStr (h := ?_)
  refine amReg PT1_ok (h := ?_)
  refine amStr (h := ?_)
  refine s_regionL ?_
  ((iterate 1 (((with_reducible refine spl_step TT_ok PT1_ok (id := 0) (σ' := ?_) ?_ ?_); rotate_left; (focus (simp [*]; rfl))))))
  refine spl_lendR TT_ok p (f := 91) (avs := [.ptr p 0 0]) (L := [.ptr p 0 0]) rfl rfl rfl rfl rfl (by kernel_rfl) Try.func91 hcn (by simp [Try.ntmps91]) (by simp [lk]) (fun q hq => by simpa [idsL, AV.ids] using hq) (by simp [rO, idsLL, idsL, AV.ids]) rfl hnum ?_
  unfold rO
  clear hnum hcn
  (refine spl_eq (τ := ?_) ?_ ?_; rotate_left; (focus ((try simp only [AS.frz, List.map_cons, List.map_nil]); (try simp [frzV, frzO, frzC, List.filter]); rfl)))
  ((iterate 1 (((with_reducible refine spl_step TT_ok PT1_ok (id := 0) (σ' := ?_) ?_ ?_); rotate_left; (focus (simp [*]; rfl))))))
  refine spl_nil ?_
  refine amStr (h := ?_)
  refine amReg PT1_ok (h := ?_)
  refine amStr (h := ?_)
  refine ⟨.inr rfl, _, rfl, rfl, ?_⟩
  (refine weakI_of (fun i => i) ⟨rfl, ?_, ?_, ?_⟩ ?_ <;> ((try simp only [List.mem_cons, List.not_mem_nil, or_false, forall_eq_or_imp, forall_eq]); (try simp (disch := omega) [lk, AV.ids, idsL, idsLL, AV.ren, renL, renLL, i64w, *])))
set_option maxHeartbeats 8000000 in
theorem readT_lend (b : List Int) (bad : Bool) (hb : okBy b = true) (hl : b.length ≤ maxB) :
    ∃ c, (Go.Proofs.Try.f92).body = some c ∧ LendR Try.prog TT Go.Proofs.Try.f92 c [.ptr 7 0 0, .v (.int .i64 128), .bnd 93 [.ptr 7 0 0]] 7 (rO b bad) (aInts (rdT b bad).1) (rO (rdT b bad).2.1 (rdT b bad).2.2) := by
  refine ⟨_, rfl, fun B hI0 hro => ?_⟩
  rw [Try.ntmps92, Try.results92]
  simp only [enumA]
  have hmax : maxB = 16777216 := rfl
  obtain ⟨cn, hcn, hnum⟩ := rnumber_lend 7 b bad hb hl (by decide)
  obtain ⟨q1, q2, q3⟩ := numR_ok b bad hb
  obtain ⟨W, hW⟩ : ∃ W, rdT b bad = W := ⟨_, rfl⟩
  rw [hW]
  unfold rdT at hW
  obtain ⟨⟨n, b2, bad2⟩, hR⟩ : ∃ R, numR b bad = R := ⟨_, rfl⟩
  rw [hR] at hnum q1 q2 q3 hW
  dsimp only at hnum q1 q2 q3 hW
  clear hR
  refine amStr (h := ?_)
  refine amReg PT1_ok (h := ?_)
  refine amStr (h := ?_)
  refine s_regionL ?_
  ((iterate 1 (((with_reducible refine spl_step TT_ok PT1_ok (id := 0) (σ' := ?_) ?_ ?_); rotate_left; (focus (simp [*]; rfl))))))
  refine spl_lendR TT_ok 7 (f := 91) (avs := [.ptr 7 0 0]) (L := [.ptr 7 0 0]) rfl rfl rfl rfl rfl (by kernel_rfl) Try.func91 hcn (by simp [Try.ntmps91]) (by simp [lk]) (fun q hq => by simpa [idsL, AV.ids] using hq) (by simp [rO, idsLL, idsL, AV.ids]) rfl hnum ?_
  unfold rO
  clear hnum hcn
  (refine spl_eq (τ := ?_) ?_ ?_; rotate_left; (focus ((try simp only [AS.frz, List.map_cons, List.map_nil]); (try simp [frzV, frzO, frzC, List.filter]); rfl)))
  ((iterate 1 (((with_reducible refine spl_step TT_ok PT1_ok (id := 0) (σ' := ?_) ?_ ?_); rotate_left; (focus (simp [*]; rfl))))))
  refine spl_nil ?_
  refine amStr (h := ?_)
  refine amReg PT1_ok (h := ?_)
  refine amStr (h := ?_)
  refine s_cutK ⟨34, [(0, .ptr 7 0 0), (2, .bnd 93 [.ptr 7 0 0]), (7, .v (.int .i64 (n : Int)))], [(7, ⟨89, 2, [[.sl 1 (b2.map fun x => [.v (.int .u8 x)]), .v (.bool (bad2 || decide (128 < n)))]]⟩)], [7]⟩ ?_ ?_
  · by_cases hn : 128 < n
    · have hn1 : (128 : Int) < (n : Int) := by omega
      refine amStr (h := ?_)
      refine amReg PT1_ok (h := ?_)
      refine amStr (h := ?_)
      refine ⟨rfl, fun c Q' k => s_weakI hI0 _ ?_ k⟩
      (refine weakI_of (fun i => i) ⟨rfl, ?_, ?_, ?_⟩ ?_ <;> ((try simp only [List.mem_cons, List.not_mem_nil, or_false, forall_eq_or_imp, forall_eq]); (try simp (disch := omega) [lk, AV.ids, idsL, idsLL, AV.ren, renL, renLL, i64w, *])))
    · have hn1 : ¬ ((128 : Int) < (n : Int)) := by omega
      refine amStr (h := ?_)
      refine ⟨rfl, fun c Q' k => s_weakI hI0 _ ?_ k⟩
      (refine weakI_of (fun i => i) ⟨rfl, ?_, ?_, ?_⟩ ?_ <;> ((try simp only [List.mem_cons, List.not_mem_nil, or_false, forall_eq_or_imp, forall_eq]); (try simp (disch := omega) [lk, AV.ids, idsL, idsLL, AV.ren, renL, renLL, i64w, *])))
  refine amStr (h := ?_)
  refine amReg PT1_ok (h := ?_)
  refine amStr (h := ?_)
  refine s_nil 8 40 3 1 (by simp [lk]) (by simp) ?_
  simp only [st]
  obtain ⟨bd0, hbd0⟩ : ∃ bd0, (bad2 || decide (128 < n)) = bd0 := ⟨_, rfl⟩
  have hbn : bd0 = false → n ≤ 128 := fun h => by
    rw [h, Bool.or_eq_false_iff, decide_eq_false_iff_not] at hbd0
    omega
  rw [hbd0] at hW ⊢
  clear hbd0
  refine s_loopI hI0 (J := fun x : {x : List Int × List Int × Bool // rdLoop litR (fun s => s.2) (n - x.1.length) x.1 x.2 = W ∧ okBy x.2.1 = true ∧ x.2.1.length ≤ maxB ∧ x.1.length ≤ n ∧ (x.2.2 = false → n ≤ 128)} => ⟨34, [(0, .ptr 7 0 0), (2, .bnd 93 [.ptr 7 0 0]), (7, .v (.int .i64 (n : Int))), (8, .ref 40 0 x.1.1.length)], [(7, ⟨89, 2, [[.sl 1 (x.1.2.1.map fun x => [.v (.int .u8 x)]), .v (.bool x.1.2.2)]]⟩), (40, ⟨3, 1, x.1.1.map fun x => [.v (.int .i64 x)]⟩)], [40, 7]⟩) (μ := fun x => n - x.1.1.length) ⟨([], b2, bd0), hW, q2, by dsimp only; omega, Nat.zero_le _, hbn⟩ ?_ (fun ⟨⟨out, b3, bd⟩, hx, hb3, hl3, hon, hbn3⟩ => ?_)
  · (refine weakI_of (fun i => i) ⟨rfl, ?_, ?_, ?_⟩ ?_ <;> ((try simp only [List.mem_cons, List.not_mem_nil, or_false, forall_eq_or_imp, forall_eq]); (try simp (disch := omega) [lk, AV.ids, idsL, idsLL, AV.ren, renL, renLL, i64w, *])))
  dsimp only at hx hb3 hl3 hon hbn3
  dsimp only
  cases bd
  · have hn128 := hbn3 rfl
    by_cases hlt : out.length < n
    · have hlt1 : (out.length : Int) < (n : Int) := by omega
      obtain ⟨f, hf⟩ : ∃ f, n - out.length = f + 1 := ⟨n - out.length - 1, by omega⟩
      rw [hf, rdLoop, if_neg (by simp)] at hx
      obtain ⟨cl, hcl, hlit⟩ := rliteral_lend 7 b3 false hb3 hl3 (by decide)
      obtain ⟨q4, q5, q6⟩ := numR_ok b3 false hb3
      have q5' : okBy (litR (b3, false)).2.1 = true := q5
      have q6' : (litR (b3, false)).2.1.length ≤ b3.length := q6
      obtain ⟨⟨x, b4, bd4⟩, hX⟩ : ∃ X, litR (b3, false) = X := ⟨_, rfl⟩
      rw [hX] at hx hlit q5' q6'
      dsimp only at hx hlit q5' q6'
      have hcap : out.length + 1 ≤ 140737488355328 := by omega
      have hcap8 : (out.length + 1) * 8 ≤ 140737488355328 := by omega
      refine amStr (h := ?_)
      refine amReg PT1_ok (h := ?_)
      refine amStr (h := ?_)
      refine s_regionL ?_
      ((iterate 2 (((with_reducible refine spl_step TT_ok PT1_ok (id := 0) (σ' := ?_) ?_ ?_); rotate_left; (focus (simp [*]; rfl))))))
      refine spl_lendR TT_ok 7 (f := 93) (avs := []) (L := [.ptr 7 0 0]) rfl rfl rfl rfl rfl (by kernel_rfl) Try.func93 hcl (by simp [Try.ntmps93]) (by simp [lk, rO]) (fun q hq => by simpa [idsL, AV.ids] using hq) (by simp [rO, idsLL, idsL, AV.ids]) rfl hlit ?_
      unfold rO
      clear hlit hcl
      (refine spl_eq (τ := ?_) ?_ ?_; rotate_left; (focus ((try simp only [AS.frz, List.map_cons, List.map_nil]); (try simp [frzV, frzO, frzC, List.filter]); rfl)))
      (((with_reducible refine spl_step TT_ok PT1_ok (id := 41) (σ' := ?_) ?_ ?_); rotate_left; (focus (simp [*]; rfl))))
      (((with_reducible refine spl_step TT_ok PT1_ok (id := 42) (σ' := ?_) ?_ ?_); rotate_left; (focus (simp [*]; rfl))))
      ((iterate 1 (((with_reducible refine spl_step TT_ok PT1_ok (id := 0) (σ' := ?_) ?_ ?_); rotate_left; (focus (simp [*]; rfl))))))
      refine spl_nil ?_
      refine amStr (h := ?_)
      refine ki_lp (⟨(out ++ [x], b4, bd4), by dsimp only; rw [List.length_append, show n - (out.length + [x].length) = f by simp; omega]; exact hx, q5', by dsimp only; omega, by simp; omega, fun _ => hn128⟩ : {x : List Int × List Int × Bool // rdLoop litR (fun s => s.2) (n - x.1.length) x.1 x.2 = W ∧ okBy x.2.1 = true ∧ x.2.1.length ≤ maxB ∧ x.1.length ≤ n ∧ (x.2.2 = false → n ≤ 128)}) (by simp; omega) ?_
      dsimp only
      (refine weakI_of (fun q => if q = 40 then 42 else q) ⟨rfl, ?_, ?_, ?_⟩ ?_ <;> ((try simp only [List.mem_cons, List.not_mem_nil, or_false, forall_eq_or_imp, forall_eq]); (try simp (disch := omega) [lk, AV.ids, idsL, idsLL, AV.ren, renL, renLL, i64w, *])))
    · have hlt1 : ¬ ((out.length : Int) < (n : Int)) := by omega
      have hWo : W = (out, b3, false) := by rw [← hx, show n - out.length = 0 by omega]; rfl
      subst hWo
      refine amStr (h := ?_)
      refine amReg PT1_ok (h := ?_)
      refine amStr (h := ?_)
      refine s_frz (fun q => q == 40) ?_
      (refine s_eq (τ := ?_) ?_ ?_; rotate_left; (focus ((try simp only [AS.frz, List.map_cons, List.map_nil]); (try simp [frzV, frzO, frzC, List.filter]); rfl)))
      refine amStr (h := ?_)
      refine amReg PT1_ok (h := ?_)
      refine amStr (h := ?_)
      refine ⟨.inr rfl, _, rfl, rfl, ?_⟩
      (refine weakI_of (fun i => i) ⟨rfl, ?_, ?_, ?_⟩ ?_ <;> ((try simp only [List.mem_cons, List.not_mem_nil, or_false, forall_eq_or_imp, forall_eq]); (try simp (disch := omega) [lk, AV.ids, idsL, idsLL, AV.ren, renL, renLL, i64w, *])))
  · rw [rdLoop_end rfl] at hx
    subst hx
    obtain ⟨dlt, hdlt⟩ : ∃ dlt, decide ((out.length : Int) < (n : Int)) = dlt := ⟨_, rfl⟩
    cases dlt
    all_goals
      have hdl2 := of_decide_eq_true (p := True) rfl
      clear hdl2
      simp only [decide_eq_true_eq, decide_eq_false_iff_not] at hdlt
      refine amStr (h := ?_)
      refine amReg PT1_ok (h := ?_)
      refine amStr (h := ?_)
      refine s_frz (fun q => q == 40) ?_
      (refine s_eq (τ := ?_) ?_ ?_; rotate_left; (focus ((try simp only [AS.frz, List.map_cons, List.map_nil]); (try simp [frzV, frzO, frzC, List.filter]); rfl)))
      refine amStr (h := ?_)
      refine amReg PT1_ok (h := ?_)
      refine amStr (h := ?_)
      refine ⟨.inr rfl, _, rfl, rfl, ?_⟩
      (refine weakI_of (fun i => i) ⟨rfl, ?_, ?_, ?_⟩ ?_ <;> ((try simp only [List.mem_cons, List.not_mem_nil, or_false, forall_eq_or_imp, forall_eq]); (try simp (disch := omega) [lk, AV.ids, idsL, idsLL, AV.ren, renL, renLL, i64w, *])))
end Go.Proofs.Ythdjgcjpolpgdaa
