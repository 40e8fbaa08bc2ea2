/- slices.IndexFunc and ContainsFunc over numbers, whatever function looks at the elements, by the abstract machine; no condition. -/
import Derived.Test.YtecdhmiamlgibaaDoorCvG
import Derived.Test.YtecdhmiamlgibaaDoorWa
import Derived.Test.YtecdhmiamlgibaaDoorAmB
namespace Go.Proofs.YtecdhmiamlgibaaDoor
set_option linter.unusedVariables false
set_option linter.unusedSimpArgs false
set_option linter.unusedSectionVars false
open Go.RowKit
set_option maxRecDepth 100000
theorem amOwn1956 {PT : PTab} (hp : PTok Tryd.prog PT) {G H : Prop} (t : PTok Tryd.prog PT → Hold H → G := by intro hp hq; (repeat (first | with_reducible first | refine s_seq ?_ | refine k_seq ?_ | refine k_seq_ret ?_ | refine k_seq_exit ?_ | refine k_blk ?_ | refine k_blk_ret ?_ | refine k_blk_exit ?_ | refine k_lp_ret ?_ | refine k_lp_exit ?_ | refine ki_lp_ret ?_ | refine ki_lp_exit ?_ | refine s_block ?_ | refine sp_skip ?_ | refine sp_ret ?_ | refine sp_exit ?_ | ((with_reducible refine k_blk_out ?_ ?_); (focus decide)) | ((with_reducible refine s_cond_t ?_ ?_); (focus (simp [-List.getD_eq_getElem?_getD, lk, AS.ev, *]; done))) | ((with_reducible refine s_cond_f ?_ ?_); (focus (simp [-List.getD_eq_getElem?_getD, lk, AS.ev, *]; done))) | (focus ((with_reducible refine s_region2 (q := ?_) (σ' := ?_) TT_ok hp ?_ ?_ ?_); rotate_left 2; (focus (first | (simp [nxt]; exact Eq.refl _) | exact Eq.refl _)); (focus ((repeat (((with_reducible refine runL_cons (σ1 := ?_) ?_ ?_); rotate_left; (focus (simp [-List.getD_eq_getElem?_getD, List.getD_cons_zero, List.getD_cons_succ, List.getD_nil, undef, gvars, runL, runE, effA, stepA, dstOk, wantA, core, lk, st, dl, AS.ev, AS.evs, AS.put, AS.upd, updO, updI, nxt, cPick, cAlloc, cBox, cBuild, cBuildS, cLoad, cStore, cNil, plainOf, cBin, cNilS, isNilS, nilA, cUn, cConvX, cConvB, cConv, bytesOf, rowB, cMake, cSlice, slA, idxA, cFA, cF, cIA, cIX, cIS, cI, cExt, cLen, cApp, cMM, cFun, cCall, lenA, lenM, isNilM, nilM, cNilM, cMakeM, hintB, cMapK, cLook, foundR, lookR, cUpd, putM, cDel, delM, findA, isKeyB, Instr.sameNow, AS.entry, AS.bound, AS.callee, sc1, sc2, ixOk, ldA, AV.flat, AV.cell, AV.cells, Value.oneCell', fillA, spl, chunk, zeros, AS.parts, AS.rows, AS.shut, AS.shut1, AS.shut2, AS.shutL, AS.shutM, AV.ids, idsL, idsLL, eqAll, bndA, AV.scalar, AV.scalar1, AV.isV, Ef.app, Ef.pk, ptOf, pntO, wrO, wr, *]; rfl))))); (exact runL_nil))))) | (focus ((with_reducible refine s_draw2 (q := ?_) (es := ?_) (σ' := ?_) prog_mixed TT_ok hp ?_ ?_ ?_ ?_); rotate_left 3; (focus (first | (simp [nxt]; exact Eq.refl _) | exact Eq.refl _)); (focus ((repeat (((with_reducible refine runE_cons (e := ?_) (σ1 := ?_) (es := ?_) ?_ ?_ ?_); rotate_left 3; (focus (simp [-List.getD_eq_getElem?_getD, List.getD_cons_zero, List.getD_cons_succ, List.getD_nil, undef, gvars, runL, runE, effA, stepA, dstOk, wantA, core, lk, st, dl, AS.ev, AS.evs, AS.put, AS.upd, updO, updI, nxt, cPick, cAlloc, cBox, cBuild, cBuildS, cLoad, cStore, cNil, plainOf, cBin, cNilS, isNilS, nilA, cUn, cConvX, cConvB, cConv, bytesOf, rowB, cMake, cSlice, slA, idxA, cFA, cF, cIA, cIX, cIS, cI, cExt, cLen, cApp, cMM, cFun, cCall, lenA, lenM, isNilM, nilM, cNilM, cMakeM, hintB, cMapK, cLook, foundR, lookR, cUpd, putM, cDel, delM, findA, isKeyB, Instr.sameNow, AS.entry, AS.bound, AS.callee, sc1, sc2, ixOk, ldA, AV.flat, AV.cell, AV.cells, Value.oneCell', fillA, spl, chunk, zeros, AS.parts, AS.rows, AS.shut, AS.shut1, AS.shut2, AS.shutL, AS.shutM, AV.ids, idsL, idsLL, eqAll, bndA, AV.scalar, AV.scalar1, AV.isV, Ef.app, Ef.pk, ptOf, pntO, wrO, wr, *]; exact Eq.refl _)); (focus (simp [-List.getD_eq_getElem?_getD, List.getD_cons_zero, List.getD_cons_succ, Ef.app, Ef.pk, pntO, wrO, wr, lk, AS.upd, updO, updI, AS.put, st, dl]; exact Eq.refl _))))); (exact runE_nil))); (focus (first | kernel_rfl | decide)))))); exact hq.out) (h : H) : G := t hp ⟨h⟩

def Known (objs : List (Nat × AObj)) (ids : List Nat) : Prop := ∀ k ob, lk objs k = some ob → k ∈ ids ∧ ∀ q ∈ idsLL ob.xs, q ∈ ids
theorem weakI_same {objs : List (Nat × AObj)} {ids : List Nat} (hcd : Known objs ids) {n : Nat} {s t : List (Nat × AV)} (h : ∀ p ∈ t, lk s p.1 = some p.2 ∧ ∀ k ∈ p.2.ids, k ∈ ids) : WeakI ids ⟨n, s, objs, ids⟩ ⟨n, t, objs, ids⟩ :=
 ⟨rfl, fun k => k, fun q av hq => by rw [AV.ren_id]; exact h (q, av) (mem_lk hq), fun k ob hk => by rw [renLL_id]; exact ⟨hk, hcd k ob hk⟩, fun _ _ _ _ _ _ h => h, fun k hk => ⟨rfl, hk⟩⟩
def Ends (objs : List (Nat × AObj)) (ids : List Nat) (rs : List ResultVar) (v : AV) (e : Exit) (τ : AS) : Prop := (e = .normal ∨ e = .ret) ∧ retA TT τ rs = some v ∧ τ.objs = objs ∧ τ.ids = ids
def Looks (P : Program) (objs : List (Nat × AObj)) (ids : List Nat) (f : FuncId) (cs : List AV) (xs : List AV) (q : AV → Bool) : Prop :=
 fnB P f = true ∧ ∃ fn c, P.funcs[f]? = some fn ∧ fn.body = some c ∧ cs.length + 1 ≤ fn.ntmps ∧ ∀ x ∈ xs, ∀ B : Base, B.I0 = ids → B.ro = none → SP P B c ⟨fn.ntmps, enumA 0 (x :: cs), objs, ids⟩ (Ends objs ids fn.results.toList (.v (.bool (q x))))
theorem spl_looks {P : Program} (hTT : TTok P TT) {B : Base} {ops : Array Oper} {σ : AS} {Q : Exit → AS → Prop} {o : Oper} {r : List Oper} {x : Operand} {y : Operand} {ts : Array TypeId} {f : FuncId} {cs : List AV} {a : AV} {xs : List AV} {q : AV → Bool} (hd : dstOk σ o = true) (hw : wantA σ ops o = some true) (ho : o.op = .call { callee := .value x, args := #[y], argTypes := ts })
  (hx : σ.callee x = some (f, cs)) (hy : σ.ev y = some a) (ha : a ∈ xs) (hl : Looks P σ.objs σ.ids f cs xs q) (k : SPL P B ops r (σ.put o.dst (.v (.bool (q a)))) Q) : SPL P B ops (o :: r) σ Q := by
 obtain ⟨hB, fn, c, hf, hb, hn, h⟩ := hl
 refine spl_call hTT hd hw ho hB hf hb hx (avs := [a]) (by simp [AS.evs, hy]) (by simpa using hn) fun B' hI hro => ?_
 refine sp_mono (h a ha B' hI hro) fun e τ hq => ?_
 obtain ⟨h1, h2, h3, h4⟩ := hq
 refine ⟨h1, _, h2, ?_⟩
 rw [h3, h4]; exact k

def idxF (xs : List Int) (q : Int → Bool) : Int := match xs.findIdx? q with
 | some i => (i : Int)
 | none => -1
theorem idxF_at {xs : List Int} {q : Int → Bool} {k : Nat} (hk : k < xs.length) (h : ∀ j, j < k → q (xs.getD j 0) = false) (hq : q (xs.getD k 0) = true) : idxF xs q = k := by
 have : xs.findIdx? q = some k := by
  rw [List.findIdx?_eq_some_iff_getElem]
  refine ⟨hk, by simpa [List.getD, hk] using hq, fun j hj => ?_⟩
  have := h j hj
  simpa [List.getD, show j < xs.length by omega] using this
 unfold idxF; rw [this]
theorem idxF_none {xs : List Int} {q : Int → Bool} (h : ∀ j, j < xs.length → q (xs.getD j 0) = false) : idxF xs q = -1 := by
 have : xs.findIdx? q = none := by
  rw [List.findIdx?_eq_none_iff]
  intro x hx
  obtain ⟨j, hj, rfl⟩ := List.getElem_of_mem hx
  simpa [List.getD, hj] using h j hj
 unfold idxF; rw [this]
theorem idxF_any (xs : List Int) (q : Int → Bool) : decide (idxF xs q ≥ 0) = xs.any q := by
 unfold idxF
 cases h : xs.findIdx? q with
 | none =>
  rw [List.findIdx?_eq_none_iff] at h
  have : xs.any q = false := List.any_eq_false.2 fun x hx => by simp [h x hx]
  rw [this]; rfl
 | some i =>
  rw [List.findIdx?_eq_some_iff_getElem] at h
  obtain ⟨hi, hq, _⟩ := h
  have : xs.any q = true := List.any_eq_true.2 ⟨_, List.getElem_mem hi, hq⟩
  rw [this]; simp
def avI (xs : List Int) : List AV := xs.map fun x => .v (.int .i64 x)
def onI (q : Int → Bool) : AV → Bool
 | .v (.int .i64 x) => q x
 | _ => false
theorem avI_at {xs : List Int} {k : Nat} (hk : k < xs.length) : AV.v (.int .i64 (xs.getD k 0)) ∈ avI xs := by
 have : xs.getD k 0 = xs[k] := by simp [List.getD, hk]
 rw [this]
 exact List.mem_map_of_mem (List.getElem_mem hk)

theorem idxFI_sp {objs : List (Nat × AObj)} {ids : List Nat} (hcd : Known objs ids) {xs : List Int} (hm : xs.length ≤ 9223372036854775807) {f : FuncId} {cs : List AV} (hcs : ∀ k ∈ idsL cs, k ∈ ids) {q : Int → Bool} (hl : Looks Tryd.prog objs ids f cs (avI xs) (onI q)) {c0 : Code} (hb : (Go.Proofs.Tryd.f86).body = some c0) {B : Base} (hI : B.I0 = ids) :
  SP Tryd.prog B c0 ⟨(Go.Proofs.Tryd.f86).ntmps, enumA 0 [aInts xs, .clo f cs], objs, ids⟩ (Ends objs ids (Go.Proofs.Tryd.f86).results.toList (.v (.int .i64 (idxF xs q)))) := by
 cases hb
 rw [Tryd.ntmps86, Tryd.results86]
 simp only [enumA]
 refine amOwn1956 PT1_ok (h := ?_)
 refine s_loopI hI (J := fun i : {k : Nat // k ≤ xs.length ∧ ∀ j, j < k → q (xs.getD j 0) = false} => ⟨19, [(0, aInts xs), (1, .clo f cs), (7, .v (.int .i64 (xs.length : Int))), (8, .v (.int .i64 (i.1 : Int)))], objs, ids⟩) (μ := fun i => xs.length - i.1) ⟨0, Nat.zero_le _, fun j hj => by omega⟩ ?_ (fun ⟨k, hk, he⟩ => ?_)
 ·refine weakI_same hcd fun p hp => ?_
  simp only [List.mem_cons, List.not_mem_nil, or_false] at hp
  rcases hp with rfl | rfl | rfl | rfl <;> simp [lk, AV.ids]
  exact hcs
 refine amOwn1956 PT1_ok (h := ?_)
 (focus ((with_reducible refine sp_cond (b := ?_) ?_ (fun hc => ?_) (fun hc => ?_)); rotate_left; (focus (first | rfl | (simp [lk, AS.ev]; rfl))); all_goals (try simp [-List.getD_eq_getElem?_getD] at hc)))
 ·refine amOwn1956 PT1_ok (h := ?_)
  refine s_regionL ?_
  ((iterate 5 (((with_reducible refine spl_step TT_ok PT1_ok (id := 0) (σ' := ?_) ?_ ?_); rotate_left; (focus (simp [-List.getD_eq_getElem?_getD, List.getD_cons_zero, List.getD_cons_succ, List.getD_nil, undef, gvars, runL, runE, effA, stepA, dstOk, wantA, core, lk, st, dl, AS.ev, AS.evs, AS.put, AS.upd, updO, updI, nxt, cPick, cAlloc, cBox, cBuild, cBuildS, cLoad, cStore, cNil, plainOf, cBin, cNilS, isNilS, nilA, cUn, cConvX, cConvB, cConv, bytesOf, rowB, cMake, cSlice, slA, idxA, cFA, cF, cIA, cIX, cIS, cI, cExt, cLen, cApp, cMM, cFun, cCall, lenA, lenM, isNilM, nilM, cNilM, cMakeM, hintB, cMapK, cLook, foundR, lookR, cUpd, putM, cDel, delM, findA, isKeyB, Instr.sameNow, AS.entry, AS.bound, AS.callee, sc1, sc2, ixOk, ldA, AV.flat, AV.cell, AV.cells, Value.oneCell', fillA, spl, chunk, zeros, AS.parts, AS.rows, AS.shut, AS.shut1, AS.shut2, AS.shutL, AS.shutM, AV.ids, idsL, idsLL, eqAll, bndA, AV.scalar, AV.scalar1, AV.isV, Ef.app, Ef.pk, ptOf, pntO, wrO, wr, *]; rfl))))))
  refine spl_looks TT_ok (a := .v (.int .i64 (xs.getD k 0))) rfl rfl rfl rfl ?_ (avI_at hc) hl ?_
  ·simp [lk, AS.ev, AS.put, st]
  refine spl_nil ?_
  simp [-List.getD_eq_getElem?_getD, AS.put, st, onI]
  refine amOwn1956 PT1_ok (h := ?_)
  have hcc := hc
  clear hc
  (focus ((with_reducible refine sp_cond (b := ?_) ?_ (fun hc => ?_) (fun hc => ?_)); rotate_left; (focus (first | rfl | (simp [lk, AS.ev]; rfl))); all_goals (try simp [-List.getD_eq_getElem?_getD] at hc)))
  ·refine amOwn1956 PT1_ok (h := ?_)
   refine ⟨.inr rfl, ?_, rfl, rfl⟩
   rw [idxF_at hcc he hc]
   simp [retA, retL, ret1, lk]
  ·refine amOwn1956 PT1_ok (h := ?_)
   refine ki_lp (⟨k + 1, by omega, fun j hj => ?_⟩ : {k : Nat // k ≤ xs.length ∧ ∀ j, j < k → q (xs.getD j 0) = false}) (by dsimp only; omega) ?_
   ·by_cases e : j < k
    ·exact he j e
    ·obtain rfl : j = k := by omega
     simpa [-List.getD_eq_getElem?_getD] using hc
   ·refine weakI_same hcd fun p hp => ?_
    simp only [List.mem_cons, List.not_mem_nil, or_false] at hp
    rcases hp with rfl | rfl | rfl | rfl <;> simp [lk, AV.ids]
    ·exact hcs
    ·exact i64s k (by omega)
 ·have hno : idxF xs q = -1 := idxF_none (fun j hj => he j (by omega))
  refine amOwn1956 PT1_ok (h := ?_)
  refine ⟨.inr rfl, ?_, rfl, rfl⟩
  rw [hno]
  simp [retA, retL, ret1, lk]
theorem cntFI_sp {objs : List (Nat × AObj)} {ids : List Nat} (hcd : Known objs ids) {xs : List Int} (hm : xs.length ≤ 9223372036854775807) {f : FuncId} {cs : List AV} (hcs : ∀ k ∈ idsL cs, k ∈ ids) {q : Int → Bool} (hl : Looks Tryd.prog objs ids f cs (avI xs) (onI q)) {c0 : Code} (hb : (Go.Proofs.Tryd.f57).body = some c0) {B : Base} (hI : B.I0 = ids) :
  SP Tryd.prog B c0 ⟨(Go.Proofs.Tryd.f57).ntmps, enumA 0 [aInts xs, .clo f cs], objs, ids⟩ (Ends objs ids (Go.Proofs.Tryd.f57).results.toList (.v (.bool (xs.any q)))) := by
 cases hb
 rw [Tryd.ntmps57, Tryd.results57]
 simp only [enumA]
 refine amOwn1956 PT1_ok (h := ?_)
 refine s_regionL ?_
 ((iterate 2 (((with_reducible refine spl_step TT_ok PT1_ok (id := 0) (σ' := ?_) ?_ ?_); rotate_left; (focus (simp [-List.getD_eq_getElem?_getD, List.getD_cons_zero, List.getD_cons_succ, List.getD_nil, undef, gvars, runL, runE, effA, stepA, dstOk, wantA, core, lk, st, dl, AS.ev, AS.evs, AS.put, AS.upd, updO, updI, nxt, cPick, cAlloc, cBox, cBuild, cBuildS, cLoad, cStore, cNil, plainOf, cBin, cNilS, isNilS, nilA, cUn, cConvX, cConvB, cConv, bytesOf, rowB, cMake, cSlice, slA, idxA, cFA, cF, cIA, cIX, cIS, cI, cExt, cLen, cApp, cMM, cFun, cCall, lenA, lenM, isNilM, nilM, cNilM, cMakeM, hintB, cMapK, cLook, foundR, lookR, cUpd, putM, cDel, delM, findA, isKeyB, Instr.sameNow, AS.entry, AS.bound, AS.callee, sc1, sc2, ixOk, ldA, AV.flat, AV.cell, AV.cells, Value.oneCell', fillA, spl, chunk, zeros, AS.parts, AS.rows, AS.shut, AS.shut1, AS.shut2, AS.shutL, AS.shutM, AV.ids, idsL, idsLL, eqAll, bndA, AV.scalar, AV.scalar1, AV.isV, Ef.app, Ef.pk, ptOf, pntO, wrO, wr, *]; rfl))))))
 refine spl_call TT_ok rfl rfl rfl (by kernel_rfl) Tryd.func86 rfl (avs := [aInts xs, .clo f cs]) (cs := []) rfl rfl (by simp [Tryd.ntmps86]) fun B' hI' hro' => ?_
 refine sp_mono (idxFI_sp hcd hm hcs hl rfl hI') fun e τ hq => ?_
 obtain ⟨h1, h2, h3, h4⟩ := hq
 refine ⟨h1, _, h2, ?_⟩
 rw [h3, h4]
 ((iterate 2 (((with_reducible refine spl_step TT_ok PT1_ok (id := 0) (σ' := ?_) ?_ ?_); rotate_left; (focus (simp [-List.getD_eq_getElem?_getD, List.getD_cons_zero, List.getD_cons_succ, List.getD_nil, undef, gvars, runL, runE, effA, stepA, dstOk, wantA, core, lk, st, dl, AS.ev, AS.evs, AS.put, AS.upd, updO, updI, nxt, cPick, cAlloc, cBox, cBuild, cBuildS, cLoad, cStore, cNil, plainOf, cBin, cNilS, isNilS, nilA, cUn, cConvX, cConvB, cConv, bytesOf, rowB, cMake, cSlice, slA, idxA, cFA, cF, cIA, cIX, cIS, cI, cExt, cLen, cApp, cMM, cFun, cCall, lenA, lenM, isNilM, nilM, cNilM, cMakeM, hintB, cMapK, cLook, foundR, lookR, cUpd, putM, cDel, delM, findA, isKeyB, Instr.sameNow, AS.entry, AS.bound, AS.callee, sc1, sc2, ixOk, ldA, AV.flat, AV.cell, AV.cells, Value.oneCell', fillA, spl, chunk, zeros, AS.parts, AS.rows, AS.shut, AS.shut1, AS.shut2, AS.shutL, AS.shutM, AV.ids, idsL, idsLL, eqAll, bndA, AV.scalar, AV.scalar1, AV.isV, Ef.app, Ef.pk, ptOf, pntO, wrO, wr, *]; rfl))))))
 refine spl_nil ?_
 have ha := idxF_any xs q
 refine amOwn1956 PT1_ok (h := ?_)
 refine ⟨.inr rfl, ?_, rfl, rfl⟩
 simp [retA, retL, ret1, lk, ← ha]
end Go.Proofs.YtecdhmiamlgibaaDoor
