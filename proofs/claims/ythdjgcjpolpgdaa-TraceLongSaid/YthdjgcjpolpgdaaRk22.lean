/- trace.reader.claim: a claim is read; no condition. -/
import Derived.Test.YthdjgcjpolpgdaaRl22
import Derived.Test.YthdjgcjpolpgdaaWa
import Derived.Test.YthdjgcjpolpgdaaAm27
namespace Go.Proofs.Ythdjgcjpolpgdaa
set_option linter.unusedVariables false
set_option linter.unusedSimpArgs false
set_option linter.unusedSectionVars false
open Go.RowKit
attribute [local simp] List.getD_cons_zero List.getD_cons_succ List.getD_nil undef gvars runL runE effA stepA dstOk wantA core lk st dl AS.ev AS.evs AS.put AS.upd updO updI nxt cPick cAlloc cBox cBuild cBuildS cLoad cStore cNil plainOf cBin cNilS isNilS nilA cUn cConvX cConvB cConv bytesOf rowB cMake cSlice slA idxA cFA cF cIA cIX cIS cI cExt cLen cApp cMM cFun cCall lenA lenM isNilM nilM cNilM cMakeM hintB cMapK cLook foundR lookR cUpd putM cDel delM findA isKeyB Instr.sameNow AS.entry AS.bound AS.callee sc1 sc2 ixOk ldA AV.flat AV.cell AV.cells Value.oneCell' fillA spl chunk zeros AS.parts AS.rows AS.shut AS.shut1 AS.shut2 AS.shutL AS.shutM AV.ids idsL idsLL eqAll bndA AV.scalar AV.scalar1 AV.isV Ef.app Ef.pk ptOf pntO wrO wr
attribute [-simp] List.getD_eq_getElem?_getD
set_option maxRecDepth 100000
def idxR (s : Int × List Int × Bool) : Int × Int × List Int × Bool := (s.1 + ((numR s.2.1 s.2.2).1 : Int), s.1 + ((numR s.2.1 s.2.2).1 : Int), (numR s.2.1 s.2.2).2)
def rdI (b : List Int) (bad : Bool) : List Int × Int × List Int × Bool := rdLoop idxR (fun s => s.2.2) (numR b bad).1 [] (0, (numR b bad).2.1, (numR b bad).2.2 || decide (4096 < (numR b bad).1))
def claimR (s : List Int × Bool) : Cl × List Int × Bool :=
  (((rdT s.1 s.2).1, (rdI (rdT s.1 s.2).2.1 (rdT s.1 s.2).2.2).1), (rdI (rdT s.1 s.2).2.1 (rdT s.1 s.2).2.2).2.2.1, (rdI (rdT s.1 s.2).2.1 (rdT s.1 s.2).2.2).2.2.2 || !goodB 128 4096 (rdT s.1 s.2).1 (rdI (rdT s.1 s.2).2.1 (rdT s.1 s.2).2.2).1)
theorem rdLoop_inv {S α : Type} {one : S → α × S} {bd : S → Bool} (I : List α → S → Prop) (h : ∀ out s, bd s = false → I out s → I (out ++ [(one s).1]) (one s).2) : ∀ (f : Nat) (out : List α) (s : S), I out s → I (rdLoop one bd f out s).1 (rdLoop one bd f out s).2
  | 0, _, _, hi => hi
  | f + 1, out, s, hi => by
    rw [rdLoop]
    split
    · exact hi
    · exact rdLoop_inv I h f _ _ (h out s (by simpa using (by assumption : ¬ bd s = true)) hi)
theorem rdLoop_len {S α : Type} {one : S → α × S} {bd : S → Bool} : ∀ (f : Nat) (out : List α) (s : S), (rdLoop one bd f out s).1.length ≤ out.length + f
  | 0, _, _ => Nat.le_refl _
  | f + 1, out, s => by
    rw [rdLoop]
    split
    · simp
    · have := rdLoop_len (one := one) (bd := bd) f (out ++ [(one s).1]) (one s).2
      rw [List.length_append, List.length_singleton] at this
      omega
theorem okInts_of {xs : List Int} (hn : xs.length ≤ 17592186044416) (h : ∀ x ∈ xs, okI x = true) : okInts xs = true := by
  simp only [okInts, Bool.and_eq_true, List.all_eq_true, decide_eq_true_eq]
  exact ⟨h, hn⟩
theorem rdT_ok (b : List Int) (bad : Bool) (hb : okBy b = true) : okInts (rdT b bad).1 = true ∧ okBy (rdT b bad).2.1 = true ∧ (rdT b bad).2.1.length ≤ b.length := by
  obtain ⟨q1, q2, q3⟩ := numR_ok b bad hb
  have h1 := rdLoop_len (one := litR) (bd := fun s => s.2) (numR b bad).1 [] ((numR b bad).2.1, (numR b bad).2.2 || decide (128 < (numR b bad).1))
  have h2 := rdLoop_inv (one := litR) (bd := fun s => s.2) (fun out s => (∀ x ∈ out, okI x = true) ∧ okBy s.1 = true ∧ s.1.length ≤ b.length) (fun out s _ hi => by
    obtain ⟨i1, i2, i3⟩ := hi
    obtain ⟨p1, p2, p3⟩ := numR_ok s.1 s.2 i2
    refine ⟨fun x hx => ?_, p2, by show (numR s.1 s.2).2.1.length ≤ _; omega⟩
    rw [List.mem_append, List.mem_singleton] at hx
    rcases hx with hx | rfl
    · exact i1 x hx
    · unfold litR
      dsimp only
      refine okI_iff.2 ?_
      have hm : (numR s.1 s.2).1 % 2 = 0 ∨ (numR s.1 s.2).1 % 2 = 1 := by omega
      rcases hm with hm | hm <;> rw [hm] <;> exact ⟨by omega, by omega⟩) (numR b bad).1 [] ((numR b bad).2.1, (numR b bad).2.2 || decide (128 < (numR b bad).1)) ⟨fun x hx => (by cases hx), q2, q3⟩
  exact ⟨okInts_of (by unfold rdT; rw [List.length_nil] at h1; omega) h2.1, h2.2.1, h2.2.2⟩
theorem rdI_ok (b : List Int) (bad : Bool) (hb : okBy b = true) : okInts (rdI b bad).1 = true ∧ okBy (rdI b bad).2.2.1 = true ∧ (rdI b bad).2.2.1.length ≤ b.length := by
  obtain ⟨q1, q2, q3⟩ := numR_ok b bad hb
  have h1 := rdLoop_len (one := idxR) (bd := fun s => s.2.2) (numR b bad).1 [] (0, (numR b bad).2.1, (numR b bad).2.2 || decide (4096 < (numR b bad).1))
  by_cases hbd : ((numR b bad).2.2 || decide (4096 < (numR b bad).1)) = true
  · have e : rdI b bad = ([], 0, (numR b bad).2.1, (numR b bad).2.2 || decide (4096 < (numR b bad).1)) := rdLoop_end hbd
    rw [e]
    exact ⟨rfl, q2, q3⟩
  have hn : (numR b bad).1 ≤ 4096 := by
    rw [Bool.or_eq_true, not_or, decide_eq_true_eq] at hbd
    omega
  have h2 := rdLoop_inv (one := idxR) (bd := fun s => s.2.2) (fun out s => (∀ x ∈ out, 0 ≤ x ∧ x ≤ s.1) ∧ (0 ≤ s.1 ∧ s.1 ≤ out.length * 268435456) ∧ okBy s.2.1 = true ∧ s.2.1.length ≤ b.length) (fun out s _ hi => by
    obtain ⟨i1, i0, i2, i3⟩ := hi
    obtain ⟨p1, p2, p3⟩ := numR_ok s.2.1 s.2.2 i2
    unfold idxR
    dsimp only
    refine ⟨fun x hx => ?_, ⟨by omega, by rw [List.length_append, List.length_singleton]; omega⟩, p2, by omega⟩
    rw [List.mem_append, List.mem_singleton] at hx
    rcases hx with hx | rfl
    · have := i1 x hx; omega
    · omega) (numR b bad).1 [] (0, (numR b bad).2.1, (numR b bad).2.2 || decide (4096 < (numR b bad).1)) ⟨fun x hx => (by cases hx), ⟨Int.le_refl 0, by simp⟩, q2, q3⟩
  rw [List.length_nil] at h1
  refine ⟨okInts_of (by unfold rdI; omega) (fun x hx => ?_), h2.2.2.1, h2.2.2.2⟩
  have h3 := h2.1 x hx
  have h4 := h2.2.1.2
  exact okI_iff.2 ⟨by omega, by omega⟩
theorem eff_lendX {P : Program} {TT : TTab} {B : Base} {ops : Array Oper} (hTT : TTok P TT) {σ : AS} {o : Oper} {x : Operand} {args : Array Operand} {ts : Array TypeId} {avs : List AV} {f : FuncId} {L : List AV} {fn : Func} {c : Code} (p : Nat) {O1 O2 : AObj} {av : AV}
    (ho : o.op = .call { callee := .value x, args := args, argTypes := ts }) (hd : dstOk σ o = true) (hwt : wantA σ ops o = some true) (havs : σ.evs args.toList = some avs) (hent : σ.entry x avs = some (f, L)) (hfn : fnB P f = true) (hf : P.funcs[f]? = some fn) (hb : fn.body = some c) (hle : L.length ≤ fn.ntmps)
    (hp : lk σ.objs p = some O1) (hpi : p ∈ σ.ids) (hL : ∀ q ∈ idsL L, q = p) (c1 : idsLL O1.xs = []) (h : LendX P TT fn c L p O1 av O2) : Ok1 (EffOk P B ops σ o ⟨o.dst, av, [(p, some O2)], looksO ops o, [p], none⟩) := by
  refine eff_callV hTT ho hd hwt havs hent hfn hf hb hle [(p, O1)] [p] (fun q => ?_) (fun q hq => by rw [hL q hq]; simp) (fun q hq ob hob i hi => ?_) (fun q hq => ?_) (id := p) (by simp) (av := av) (ob' := O2) (fun B' h1 h2 => ?_)
  · simp only [lk, List.mem_cons, List.not_mem_nil, or_false]
    by_cases e1 : p = q
    · subst e1; simp [hp]
    · rw [if_neg e1, if_neg (fun hh => e1 hh.symm)]
  · simp only [List.mem_cons, List.not_mem_nil, or_false] at hq
    subst hq
    rw [hp] at hob; cases hob
    rw [c1] at hi; cases hi
  · simp only [List.mem_cons, List.not_mem_nil, or_false] at hq
    subst hq; exact hpi
  · refine sp_mono (h B' h1 h2) fun e τ hq => ?_
    obtain ⟨he, av', g1, g2, g3, g4⟩ := hq
    refine ⟨he, av', g1, g2, fun k => ?_, g4⟩
    rw [g3]
    by_cases e1 : k = p
    · rw [if_pos e1, if_pos e1]
    · rw [if_neg e1, if_neg e1]
      simp only [lk]
      rw [if_neg (fun hh => e1 hh.symm)]
attribute [local simp] AV.ren renL
set_option maxHeartbeats 8000000 in
theorem rclaim_lend (b : List Int) (bad : Bool) (hb : okBy b = true) (hl : b.length ≤ maxB) :
    ∃ c, (Go.Proofs.Try.f67).body = some c ∧ LendR Try.prog TT Go.Proofs.Try.f67 c [.ptr 7 0 0] 7 (rO b bad) (.agg [aInts (claimR (b, bad)).1.1, aInts (claimR (b, bad)).1.2]) (rO (claimR (b, bad)).2.1 (claimR (b, bad)).2.2) := by
  refine ⟨_, rfl, fun B hI0 hro => ?_⟩
  rw [Try.ntmps67, Try.results67]
  simp only [enumA]
  have hmax : maxB = 16777216 := rfl
  obtain ⟨ct, hct, hrt⟩ := readT_lend b bad hb hl
  obtain ⟨t1, t2, t3⟩ := rdT_ok b bad hb
  unfold claimR
  dsimp only
  obtain ⟨⟨ts, b2, bad2⟩, hT⟩ : ∃ X, rdT b bad = X := ⟨_, rfl⟩
  rw [hT] at hrt t1 t2 t3 ⊢
  dsimp only at hrt t1 t2 t3 ⊢
  obtain ⟨i1, i2, i3⟩ := rdI_ok b2 bad2 t2
  unfold rO
  refine amStr (h := ?_)
  refine s_regionL ?_
  (((with_reducible refine spl_step TT_ok PT112_ok (id := 201) (σ' := ?_) ?_ ?_); rotate_left; (focus (simp [*]; rfl))))
  (((with_reducible refine spl_step TT_ok PT112_ok (id := 202) (σ' := ?_) ?_ ?_); rotate_left; (focus (simp [*]; rfl))))
  refine spl_nil ?_
  refine amStr (h := ?_)
  refine s_regionL ?_
  ((iterate 3 (((with_reducible refine spl_step TT_ok PT112_ok (id := 0) (σ' := ?_) ?_ ?_); rotate_left; (focus (simp [*]; rfl))))))
  refine spl_lendR TT_ok 7 (f := 92) (avs := [.ptr 7 0 0, .v (.int .i64 128), .bnd 93 [.ptr 7 0 0]]) (L := [.ptr 7 0 0, .v (.int .i64 128), .bnd 93 [.ptr 7 0 0]]) rfl rfl rfl rfl rfl (by kernel_rfl) Try.func92 hct (by simp [Try.ntmps92]) (by simp [lk, rO]) (fun q hq => by simpa [idsL, AV.ids] using hq) (ids_rO _ _) (by simp) hrt ?_
  unfold rO
  clear hrt hct
  (refine spl_eq (τ := ?_) ?_ ?_; rotate_left; (focus ((try simp only [AS.frz, List.map_cons, List.map_nil]); (try simp [frzV, frzO, frzC, List.filter]); rfl)))
  ((iterate 1 (((with_reducible refine spl_step TT_ok PT112_ok (id := 0) (σ' := ?_) ?_ ?_); rotate_left; (focus (simp [*]; rfl))))))
  (((with_reducible refine spl_step TT_ok PT112_ok (id := 204) (σ' := ?_) ?_ ?_); rotate_left; (focus (simp [*]; rfl))))
  ((iterate 1 (((with_reducible refine spl_step TT_ok PT112_ok (id := 0) (σ' := ?_) ?_ ?_); rotate_left; (focus (simp [*]; rfl))))))
  refine spl_nil ?_
  refine amStr (h := ?_)
  refine s_regionL ?_
  (((with_reducible refine spl_step TT_ok PT112_ok (id := 203) (σ' := ?_) ?_ ?_); rotate_left; (focus (simp [*]; rfl))))
  ((iterate 1 (((with_reducible refine spl_step TT_ok PT112_ok (id := 0) (σ' := ?_) ?_ ?_); rotate_left; (focus (simp [*]; rfl))))))
  refine spl_nil ?_
  refine amStr (h := ?_)
  obtain ⟨⟨cs, la9, b3, bad3⟩, hI⟩ : ∃ X, rdI b2 bad2 = X := ⟨_, rfl⟩
  rw [hI] at i1 i2 i3 ⊢
  dsimp only at i1 i2 i3 ⊢
  unfold rdI at hI
  refine s_cutK ⟨27, [(1, .ptr 201 0 0), (2, .ptr 202 0 0), (3, .ptr 204 0 0)], [(7, ⟨89, 2, [[.sl 1 (b3.map fun x => [.v (.int .u8 x)]), .v (.bool bad3)]]⟩), (201, ⟨87, 1, [[.ptr 7 0 0]]⟩), (202, ⟨27, 2, [[.v (.slice none 0 0), .v (.slice none 0 0)]]⟩), (204, ⟨27, 2, [[aInts ts, aInts cs]]⟩)], [204, 202, 201, 7]⟩ ?_ ?_
  · refine s_regionL ?_
    ((iterate 2 (((with_reducible refine spl_step TT_ok PT112_ok (id := 0) (σ' := ?_) ?_ ?_); rotate_left; (focus (simp [*]; rfl))))))
    refine spl_call TT_ok rfl rfl rfl (by kernel_rfl) Try.func92 rfl (avs := [.ptr 7 0 0, .v (.int .i64 4096), .clo 94 [.ptr 203 0 0, .ptr 201 0 0]]) (cs := []) rfl rfl (by simp [Try.ntmps92]) fun B1 hI1 hro1 => ?_
    replace hI1 : B1.I0 = [203, 204, 202, 201, 7] := hI1
    rw [Try.ntmps92, Try.results92]
    simp only [enumA, List.append_nil]
    obtain ⟨cn, hcn, hnum⟩ := rnumber_lend 7 b2 bad2 t2 (by omega) (by decide)
    obtain ⟨q1, q2, q3⟩ := numR_ok b2 bad2 t2
    obtain ⟨⟨n, b4, bad4⟩, hR⟩ : ∃ R, numR b2 bad2 = R := ⟨_, rfl⟩
    rw [hR] at hnum q1 q2 q3 hI
    dsimp only at hnum q1 q2 q3 hI
    clear hR
    refine amStr (h := ?_)
    refine amReg PT112_ok (h := ?_)
    refine amStr (h := ?_)
    refine s_regionL ?_
    ((iterate 1 (((with_reducible refine spl_step TT_ok PT112_ok (id := 0) (σ' := ?_) ?_ ?_); rotate_left; (focus (simp [*]; rfl))))))
    refine spl_lendR TT_ok 7 (f := 91) (avs := [.ptr 7 0 0]) (L := [.ptr 7 0 0]) rfl rfl rfl rfl rfl (by kernel_rfl) Try.func91 hcn (by simp [Try.ntmps91]) (by simp [lk, rO]) (fun q hq => by simpa [idsL, AV.ids] using hq) (ids_rO _ _) rfl hnum ?_
    unfold rO
    clear hnum hcn
    (refine spl_eq (τ := ?_) ?_ ?_; rotate_left; (focus ((try simp only [AS.frz, List.map_cons, List.map_nil]); (try simp [frzV, frzO, frzC, List.filter]); rfl)))
    ((iterate 1 (((with_reducible refine spl_step TT_ok PT112_ok (id := 0) (σ' := ?_) ?_ ?_); rotate_left; (focus (simp [*]; rfl))))))
    refine spl_nil ?_
    refine amStr (h := ?_)
    refine amReg PT112_ok (h := ?_)
    refine amStr (h := ?_)
    refine s_cutK ⟨34, [(0, .ptr 7 0 0), (2, .clo 94 [.ptr 203 0 0, .ptr 201 0 0]), (7, .v (.int .i64 (n : Int)))], [(7, ⟨89, 2, [[.sl 1 (b4.map fun x => [.v (.int .u8 x)]), .v (.bool (bad4 || decide (4096 < n)))]]⟩), (201, ⟨87, 1, [[.ptr 7 0 0]]⟩), (202, ⟨27, 2, [[.v (.slice none 0 0), .v (.slice none 0 0)]]⟩), (204, ⟨27, 2, [[aInts ts, .v (.slice none 0 0)]]⟩), (203, ⟨3, 1, [[.v (.int .i64 0)]]⟩)], [203, 204, 202, 201, 7]⟩ ?_ ?_
    · by_cases hn : 4096 < n
      · have hn1 : (4096 : Int) < (n : Int) := by omega
        refine amStr (h := ?_)
        refine amReg PT112_ok (h := ?_)
        refine amStr (h := ?_)
        refine ⟨rfl, fun c Q' k => s_weakI hI1 _ ?_ k⟩
        (refine weakI_of (fun i => i) ⟨rfl, ?_, ?_, ?_⟩ ?_ <;> ((try simp only [List.mem_cons, List.not_mem_nil, or_false, forall_eq_or_imp, forall_eq]); (try simp (disch := omega) [lk, AV.ids, idsL, idsLL, AV.ren, renL, renLL, i64w, *])))
      · have hn1 : ¬ ((4096 : Int) < (n : Int)) := by omega
        refine amStr (h := ?_)
        refine ⟨rfl, fun c Q' k => s_weakI hI1 _ ?_ k⟩
        (refine weakI_of (fun i => i) ⟨rfl, ?_, ?_, ?_⟩ ?_ <;> ((try simp only [List.mem_cons, List.not_mem_nil, or_false, forall_eq_or_imp, forall_eq]); (try simp (disch := omega) [lk, AV.ids, idsL, idsLL, AV.ren, renL, renLL, i64w, *])))
    refine amStr (h := ?_)
    refine amReg PT112_ok (h := ?_)
    refine amStr (h := ?_)
    refine s_nil 8 40 3 1 (by simp [lk]) (by simp) ?_
    simp only [st]
    obtain ⟨X, hXe⟩ : ∃ X, (cs, la9, b3, bad3) = X := ⟨_, rfl⟩
    rw [hXe] at hI
    obtain ⟨bd0, hbd0⟩ : ∃ bd0, (bad4 || decide (4096 < n)) = bd0 := ⟨_, rfl⟩
    have hbn : bd0 = false → n ≤ 4096 := fun h => by
      rw [h, Bool.or_eq_false_iff, decide_eq_false_iff_not] at hbd0
      omega
    rw [hbd0] at hI ⊢
    clear hbd0
    refine s_loopI hI1 (J := fun x : {x : List Int × Int × List Int × Bool // rdLoop idxR (fun s => s.2.2) (n - x.1.length) x.1 x.2 = X ∧ okBy x.2.2.1 = true ∧ x.2.2.1.length ≤ maxB ∧ x.1.length ≤ n ∧ (x.2.2.2 = false → n ≤ 4096) ∧ 0 ≤ x.2.1 ∧ x.2.1 ≤ (x.1.length : Int) * 268435456} => ⟨34, [(0, .ptr 7 0 0), (2, .clo 94 [.ptr 203 0 0, .ptr 201 0 0]), (7, .v (.int .i64 (n : Int))), (8, .ref 40 0 x.1.1.length)], [(7, ⟨89, 2, [[.sl 1 (x.1.2.2.1.map fun x => [.v (.int .u8 x)]), .v (.bool x.1.2.2.2)]]⟩), (201, ⟨87, 1, [[.ptr 7 0 0]]⟩), (202, ⟨27, 2, [[.v (.slice none 0 0), .v (.slice none 0 0)]]⟩), (204, ⟨27, 2, [[aInts ts, .v (.slice none 0 0)]]⟩), (203, ⟨3, 1, [[.v (.int .i64 x.1.2.1)]]⟩), (40, ⟨3, 1, x.1.1.map fun x => [.v (.int .i64 x)]⟩)], [40, 203, 204, 202, 201, 7]⟩) (μ := fun x => n - x.1.1.length) ⟨([], 0, b4, bd0), hI, q2, by dsimp only; omega, Nat.zero_le _, hbn, Int.le_refl 0, by simp⟩ ?_ (fun ⟨⟨out, la, b5, bd⟩, hx, hb5, hl5, hon, hbn3, hla0, hla1⟩ => ?_)
    · (refine weakI_of (fun i => i) ⟨rfl, ?_, ?_, ?_⟩ ?_ <;> ((try simp only [List.mem_cons, List.not_mem_nil, or_false, forall_eq_or_imp, forall_eq]); (try simp (disch := omega) [lk, AV.ids, idsL, idsLL, AV.ren, renL, renLL, i64w, *])))
    dsimp only at hx hb5 hl5 hon hbn3 hla0 hla1
    dsimp only
    cases bd
    · have hn4 := hbn3 rfl
      by_cases hlt : out.length < n
      · have hlt1 : (out.length : Int) < (n : Int) := by omega
        obtain ⟨f, hf⟩ : ∃ f, n - out.length = f + 1 := ⟨n - out.length - 1, by omega⟩
        rw [hf, rdLoop, if_neg (by simp)] at hx
        obtain ⟨cl, hcl, hnx⟩ := rnumber_exact 7 b5 false hb5 hl5 (by decide)
        obtain ⟨q4, q5, q6⟩ := numR_ok b5 false hb5
        unfold idxR at hx
        dsimp only at hx
        obtain ⟨⟨m, b6, bd6⟩, hM⟩ : ∃ X, numR b5 false = X := ⟨_, rfl⟩
        rw [hM] at hx hnx q4 q5 q6
        dsimp only at hx hnx q4 q5 q6
        clear hM
        have hcap : out.length + 1 ≤ 140737488355328 := by omega
        have hcap8 : (out.length + 1) * 8 ≤ 140737488355328 := by omega
        have hwm : IntKind.i64.wrap (la + (m : Int)) = la + (m : Int) := i64w (by omega) (by omega)
        refine amStr (h := ?_)
        refine amReg PT112_ok (h := ?_)
        refine amStr (h := ?_)
        refine s_regionL ?_
        ((iterate 2 (((with_reducible refine spl_step TT_ok PT112_ok (id := 0) (σ' := ?_) ?_ ?_); rotate_left; (focus (simp [*]; rfl))))))
        refine spl_enter TT_ok rfl rfl rfl (by kernel_rfl) Try.func94 rfl (enters_entry (avs := []) (L := [.ptr 203 0 0, .ptr 201 0 0]) rfl (by kernel_rfl) rfl rfl) (by simp [Try.ntmps94]) fun B2 hI2 hro2 => ?_
        rw [Try.ntmps94, Try.results94]
        simp only [enumA]
        refine amStr (h := ?_)
        refine amReg PT112_ok (h := ?_)
        refine amStr (h := ?_)
        refine s_drawC (es := ?es) (σ' := ⟨?n1, ?s1, ?b1, ?i1⟩) (σ0 := ?s0) (o0 := ?o0) (e0 := ⟨some 5, .v (.int .i64 (m : Int)), [(7, some (rO b6 bd6))], [4], [7], none⟩) (q := 90) prog_mixed TT_ok PT112_ok ?he0 ?hrun ?hok ?kk
        case hrun =>
          (((with_reducible refine runC_cons (e := ?_) (σ1 := ?_) (es := ?_) ?_ ?_ ?_ ?_); rotate_left 4; (focus (simp [*]; exact Eq.refl _)); (focus (simp; exact Eq.refl _))))
          (((with_reducible refine runC_cons (e := ?_) (σ1 := ?_) (es := ?_) ?_ ?_ ?_ ?_); rotate_left 4; (focus (simp [*]; exact Eq.refl _)); (focus (simp; exact Eq.refl _))))
          refine runC_call (es := ?_) (σ1 := ?_) ?_ ?_
          rotate_left 2
          · simp; exact Eq.refl _
          (((with_reducible refine runC_cons (e := ?_) (σ1 := ?_) (es := ?_) ?_ ?_ ?_ ?_); rotate_left 4; (focus (simp [*]; exact Eq.refl _)); (focus (simp; exact Eq.refl _))))
          (((with_reducible refine runC_cons (e := ?_) (σ1 := ?_) (es := ?_) ?_ ?_ ?_ ?_); rotate_left 4; (focus (simp [*]; exact Eq.refl _)); (focus (simp; exact Eq.refl _))))
          exact runC_nil
          all_goals decide
        case he0 =>
          intro D
          refine eff_lendX TT_ok 7 (f := 91) (avs := [.ptr 7 0 0]) (L := [.ptr 7 0 0]) rfl rfl rfl rfl rfl (by kernel_rfl) Try.func91 hcl (by simp [Try.ntmps91]) (by simp [lk, rO]) (by simp) (fun q hq => by simpa [idsL, AV.ids] using hq) (ids_rO _ _) hnx
        case hok => kernel_rfl
        case kk =>
        unfold rO
        clear hnx hcl
        (refine s_eq (τ := ?_) ?_ ?_; rotate_left; (focus ((try simp only [AS.frz, List.map_cons, List.map_nil]); (try simp [frzV, frzO, frzC, List.filter]); rfl)))
        refine amStr (h := ?_)
        refine amReg PT112_ok (h := ?_)
        refine amStr (h := ?_)
        refine ⟨.inr rfl, _, rfl, ?_⟩
        (refine spl_eq (τ := ?_) ?_ ?_; rotate_left; (focus ((try simp only [AS.frz, List.map_cons, List.map_nil]); (try simp [frzV, frzO, frzC, List.filter]); rfl)))
        (((with_reducible refine spl_step TT_ok PT112_ok (id := 41) (σ' := ?_) ?_ ?_); rotate_left; (focus (simp [*]; rfl))))
        (((with_reducible refine spl_step TT_ok PT112_ok (id := 42) (σ' := ?_) ?_ ?_); rotate_left; (focus (simp [*]; rfl))))
        ((iterate 1 (((with_reducible refine spl_step TT_ok PT112_ok (id := 0) (σ' := ?_) ?_ ?_); rotate_left; (focus (simp [*]; rfl))))))
        refine spl_nil ?_
        refine amStr (h := ?_)
        refine ki_lp (⟨(out ++ [la + (m : Int)], la + (m : Int), b6, bd6), by dsimp only; rw [List.length_append, show n - (out.length + [la + (m : Int)].length) = f by simp; omega]; exact hx, q5, by dsimp only; omega, by simp; omega, fun _ => hn4, by dsimp only; omega, by dsimp only; rw [List.length_append, List.length_singleton]; omega⟩ : {x : List Int × Int × List Int × Bool // rdLoop idxR (fun s => s.2.2) (n - x.1.length) x.1 x.2 = X ∧ okBy x.2.2.1 = true ∧ x.2.2.1.length ≤ maxB ∧ x.1.length ≤ n ∧ (x.2.2.2 = false → n ≤ 4096) ∧ 0 ≤ x.2.1 ∧ x.2.1 ≤ (x.1.length : Int) * 268435456}) (by simp; omega) ?_
        dsimp only
        (refine weakI_of (fun q => if q = 40 then 42 else q) ⟨rfl, ?_, ?_, ?_⟩ ?_ <;> ((try simp only [List.mem_cons, List.not_mem_nil, or_false, forall_eq_or_imp, forall_eq]); (try simp (disch := omega) [lk, AV.ids, idsL, idsLL, AV.ren, renL, renLL, i64w, *])))
      · have hlt1 : ¬ ((out.length : Int) < (n : Int)) := by omega
        have hXo : X = (out, la, b5, false) := by rw [← hx, show n - out.length = 0 by omega]; rfl
        rw [← hXe] at hXo
        simp only [Prod.mk.injEq] at hXo
        obtain ⟨rfl, rfl, rfl, rfl⟩ := hXo
        refine amStr (h := ?_)
        refine amReg PT112_ok (h := ?_)
        refine amStr (h := ?_)
        refine s_frz (fun q => q == 40) ?_
        (refine s_eq (τ := ?_) ?_ ?_; rotate_left; (focus ((try simp only [AS.frz, List.map_cons, List.map_nil]); (try simp [frzV, frzO, frzC, List.filter]); rfl)))
        refine amStr (h := ?_)
        refine amReg PT112_ok (h := ?_)
        refine amStr (h := ?_)
        refine ⟨.inr rfl, _, rfl, ?_⟩
        (refine spl_eq (τ := ?_) ?_ ?_; rotate_left; (focus ((try simp only [AS.frz, List.map_cons, List.map_nil]); (try simp [frzV, frzO, frzC, List.filter]); rfl)))
        ((iterate 2 (((with_reducible refine spl_step TT_ok PT112_ok (id := 0) (σ' := ?_) ?_ ?_); rotate_left; (focus (simp [*]; rfl))))))
        refine spl_nil ?_
        refine ⟨rfl, fun c Q' k => s_weakI hI0 _ ?_ k⟩
        (refine weakI_of (fun i => i) ⟨rfl, ?_, ?_, ?_⟩ ?_ <;> ((try simp only [List.mem_cons, List.not_mem_nil, or_false, forall_eq_or_imp, forall_eq]); (try simp (disch := omega) [lk, AV.ids, idsL, idsLL, AV.ren, renL, renLL, i64w, *])))
    · rw [rdLoop_end rfl] at hx
      rw [← hXe] at hx
      simp only [Prod.mk.injEq] at hx
      obtain ⟨rfl, rfl, rfl, rfl⟩ := hx
      obtain ⟨dlt, hdlt⟩ : ∃ dlt, decide ((out.length : Int) < (n : Int)) = dlt := ⟨_, rfl⟩
      cases dlt
      all_goals
        simp only [decide_eq_true_eq, decide_eq_false_iff_not] at hdlt
        refine amStr (h := ?_)
        refine amReg PT112_ok (h := ?_)
        refine amStr (h := ?_)
        refine s_frz (fun q => q == 40) ?_
        (refine s_eq (τ := ?_) ?_ ?_; rotate_left; (focus ((try simp only [AS.frz, List.map_cons, List.map_nil]); (try simp [frzV, frzO, frzC, List.filter]); rfl)))
        refine amStr (h := ?_)
        refine amReg PT112_ok (h := ?_)
        refine amStr (h := ?_)
        refine ⟨.inr rfl, _, rfl, ?_⟩
        (refine spl_eq (τ := ?_) ?_ ?_; rotate_left; (focus ((try simp only [AS.frz, List.map_cons, List.map_nil]); (try simp [frzV, frzO, frzC, List.filter]); rfl)))
        ((iterate 2 (((with_reducible refine spl_step TT_ok PT112_ok (id := 0) (σ' := ?_) ?_ ?_); rotate_left; (focus (simp [*]; rfl))))))
        refine spl_nil ?_
        refine ⟨rfl, fun c Q' k => s_weakI hI0 _ ?_ k⟩
        (refine weakI_of (fun i => i) ⟨rfl, ?_, ?_, ?_⟩ ?_ <;> ((try simp only [List.mem_cons, List.not_mem_nil, or_false, forall_eq_or_imp, forall_eq]); (try simp (disch := omega) [lk, AV.ids, idsL, idsLL, AV.ren, renL, renLL, i64w, *])))
  clear hI
  have hokN : okI 128 = true := rfl
  obtain ⟨g, hg⟩ : ∃ g, goodB 128 4096 ts cs = g := ⟨_, rfl⟩
  rw [hg]
  cases bad3 <;> cases g
  all_goals
    refine amStr (h := ?_)
    refine amDrw PT112_ok (h := ?_)
    refine amStr (h := ?_)
    refine amReg PT112_ok (h := ?_)
    refine amStr (h := ?_)
    refine ⟨.inr rfl, _, rfl, rfl, ?_⟩
    (refine weakI_of (fun i => i) ⟨rfl, ?_, ?_, ?_⟩ ?_ <;> ((try simp only [List.mem_cons, List.not_mem_nil, or_false, forall_eq_or_imp, forall_eq]); (try simp (disch := omega) [lk, AV.ids, idsL, idsLL, AV.ren, renL, renLL, i64w, *])))
end Go.Proofs.Ythdjgcjpolpgdaa
