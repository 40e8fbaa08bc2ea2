/- The function top of parts.Split on the abstract machine: it returns the root, and shortens ways; no condition. -/
import Derived.Test.YtekeidhndlnghaaAm25
import Derived.Test.YtekeidhndlnghaaWa
import Derived.Test.YtekeidhndlnghaaUfp
import Derived.Test.YtekeidhndlnghaaCvG
namespace Go.Proofs.Ytekeidhndlnghaa
set_option linter.unusedVariables false
set_option linter.unusedSimpArgs false
set_option linter.unusedSectionVars false
open Go.RowKit
attribute [local simp] List.getD_cons_zero List.getD_cons_succ List.getD_nil undef gvars runL runE effA stepA dstOk wantA core lk st dl AS.ev AS.evs AS.put AS.upd updO updI nxt cPick cAlloc cBox cBuild cBuildS cLoad cStore cNil plainOf cBin cNilS isNilS nilA cUn cConvX cConvB cConv bytesOf rowB cMake cSlice slA idxA cFA cF cIA cIX cIS cI cExt cLen cApp cMM cFun cCall lenA lenM isNilM nilM cNilM cMakeM hintB cMapK cLook foundR lookR cUpd putM cDel delM findA isKeyB Instr.sameNow AS.entry AS.bound AS.callee sc1 sc2 ixOk ldA AV.flat AV.cell AV.cells Value.oneCell' fillA spl chunk zeros AS.parts AS.rows AS.shut AS.shut1 AS.shut2 AS.shutL AS.shutM AV.ids idsL idsLL eqAll bndA AV.scalar AV.scalar1 AV.isV Ef.app Ef.pk ptOf pntO wrO wr
attribute [-simp] List.getD_eq_getElem?_getD
set_option maxRecDepth 100000
def upO (u : List Nat) : AObj := ⟨59, 129, [uRow u]⟩
def topO : AObj := ⟨60, 1, [[.clo 28 [.ptr 7 0 0, .ptr 8 0 0]]]⟩
theorem top_sp (r : Nat → Nat) : ∃ c, (Go.Proofs.Try.f28).body = some c ∧ ∀ (n v : Nat) (u : List Nat), 1 ≤ v → v ≤ n → v < 129 → Uf u r → ∀ (B : Base), B.I0 = [7, 8] → B.ro = none →
    SP Try.prog B c ⟨Go.Proofs.Try.f28.ntmps, enumA 0 [.v (.int .i64 (v : Int)), .ptr 7 0 0, .ptr 8 0 0], [(7, upO u), (8, topO)], [7, 8]⟩ (fun e τ => (e = .normal ∨ e = .ret) ∧ ∃ av', retA TT τ Go.Proofs.Try.f28.results.toList = some av' ∧ (av' = .v (.int .i64 (r v : Int)) ∧ (∀ k, lk τ.objs k = if k = 7 then some (upO (topR r n u v)) else lk [(7, upO u), (8, topO)] k) ∧ ∀ k, k ∈ τ.ids ↔ k ∈ [7, 8])) := by
  refine ⟨_, rfl, ?_⟩
  intro n
  induction n with
  | zero => intro v u h1 h2; omega
  | succ n ih =>
    intro v u h1 h2 h3 hu B hI0 hro
    rw [Try.ntmps28, Try.results28]
    simp only [enumA]
    unfold upO topO
    have hld := u_ld0 (u := u) h3
    have hul := hu.len
    have hiv : (v : Int) < 129 := by omega
    have hiv2 : (v : Int) ≤ 128 := by omega
    have hv1 : v + 1 ≤ 129 := by omega
    have hv2 : v ≤ 128 := by omega
    by_cases h0 : u.getD v 0 = 0
    · have hrv := hu.root v h3 h0
      have htr : topR r (n + 1) u v = u := by simp only [topR]; rw [if_pos h0]
      rw [h0] at hld
      rw [htr, hrv]
      clear htr
      refine amGo PT1_ok (h := ?_)
      exact ⟨.inr rfl, _, by simp [retA, retL, ret1, lk], rfl, fun k => by simp only [lk]; by_cases e : k = 7 <;> simp [e, eq_comm], fun k => Iff.rfl⟩
    · obtain ⟨g1, g2⟩ := hu.up v h3 h0
      have htr : topR r (n + 1) u v = (topR r n u (u.getD v 0)).set v (r v) := by simp only [topR]; rw [if_neg h0]
      have hih := ih (u.getD v 0) u (by omega) (by omega) (by omega) hu
      have huf := topR_uf n hu (show 1 ≤ u.getD v 0 by omega) (by omega)
      obtain ⟨p, hp⟩ : ∃ p, u.getD v 0 = p := ⟨_, rfl⟩
      rw [hp] at hld hih huf g2 htr h0
      have hp0 : ((p : Int) == 0) = false := by simpa using h0
      rw [htr]
      generalize topR r n u p = u2 at hih huf
      refine amStr (h := ?_)
      refine amReg PT1_ok (h := ?_)
      refine amStr (h := ?_)
      refine amReg PT1_ok (h := ?_)
      refine amStr (h := ?_)
      rw [g2] at hih
      have hwr := u_wr huf.len (x := r v) h3
      refine s_drawX (es := ?es) (σ' := ?s1) (σ0 := ?s0) (o0 := ?o0) (e0 := ⟨some 15, .v (.int .i64 (r v : Int)), [(7, some ⟨59, 129, [uRow u2]⟩)], [11, 14], [7, 8], none⟩) (q := 20) prog_mixed TT_ok PT1_ok ?he0 ?hrun ?hok ?kk
      case hrun =>
        (((with_reducible refine runX_cons (e := ?_) (σ1 := ?_) (es := ?_) ?_ ?_ ?_ ?_); rotate_left 4; (focus (simp [*]; exact Eq.refl _)); (focus (simp; exact Eq.refl _))))
        (((with_reducible refine runX_cons (e := ?_) (σ1 := ?_) (es := ?_) ?_ ?_ ?_ ?_); rotate_left 4; (focus (simp [*]; exact Eq.refl _)); (focus (simp; exact Eq.refl _))))
        (((with_reducible refine runX_cons (e := ?_) (σ1 := ?_) (es := ?_) ?_ ?_ ?_ ?_); rotate_left 4; (focus (simp [*]; exact Eq.refl _)); (focus (simp; exact Eq.refl _))))
        (((with_reducible refine runX_cons (e := ?_) (σ1 := ?_) (es := ?_) ?_ ?_ ?_ ?_); rotate_left 4; (focus (simp [*]; exact Eq.refl _)); (focus (simp; exact Eq.refl _))))
        (((with_reducible refine runX_cons (e := ?_) (σ1 := ?_) (es := ?_) ?_ ?_ ?_ ?_); rotate_left 4; (focus (simp [*]; exact Eq.refl _)); (focus (simp; exact Eq.refl _))))
        refine runX_call (es := ?_) (σ1 := ?_) ?_ ?_
        rotate_left 2
        · simp; exact Eq.refl _
        (((with_reducible refine runX_cons (e := ?_) (σ1 := ?_) (es := ?_) ?_ ?_ ?_ ?_); rotate_left 4; (focus (simp [*]; exact Eq.refl _)); (focus (simp; exact Eq.refl _))))
        (((with_reducible refine runX_cons (e := ?_) (σ1 := ?_) (es := ?_) ?_ ?_ ?_ ?_); rotate_left 4; (focus (simp [*]; exact Eq.refl _)); (focus (simp; exact Eq.refl _))))
        exact runX_nil
        all_goals decide
      case he0 =>
        intro D
        refine eff_callU (f := 28) (avs := [.v (.int .i64 (p : Int))]) (L := [.v (.int .i64 (p : Int)), .ptr 7 0 0, .ptr 8 0 0]) TT_ok rfl rfl rfl rfl rfl (by kernel_rfl) Try.func28 rfl (by simp [Try.ntmps28]) [(7, upO u), (8, topO)] [7, 8] (fun k => ?_) (fun k hk => ?_) (fun k hk ob hob => ?_) (fun k hk => ?_) (by simp) (fun B' h1 h2 => hih B' h1 h2)
        · by_cases e1 : k = 7
          · subst e1; simp [lk, upO]
          · by_cases e2 : k = 8
            · subst e2; simp [lk, topO]
            · simp [lk, Ne.symm e1, Ne.symm e2, e1, e2]
        · simp [idsL, AV.ids] at hk; simp [hk]
        · simp only [List.mem_cons, List.not_mem_nil, or_false] at hk
          rcases hk with rfl | rfl
          · simp [lk] at hob; subst hob; simp [idsLL]
          · simp [lk] at hob; subst hob; simp [idsLL, idsL, AV.ids]
        · exact hk
      case hok => kernel_rfl
      case kk =>
        have hld2 : (List.drop v (uRow (u2.set v (r v)))).getD 0 .any = .v (.int .i64 (r v : Int)) := by
          have := u_ld0 (u := u2.set v (r v)) h3
          have hl2 := huf.len
          rw [this]; simp [List.getD, hl2, h3]
        refine amGo PT1_ok (h := ?_)
        exact ⟨.inr rfl, _, by simp [retA, retL, ret1, lk], rfl, fun k => by simp only [lk]; by_cases e : k = 7 <;> simp [e, eq_comm], fun k => Iff.rfl⟩
theorem top_eff (r : Nat → Nat) {B : Base} {ops : Array Oper} {σ : AS} {o : Oper} {x : Operand} {args : Array Operand} {ts : Array TypeId} {v : Nat} (h1 : 1 ≤ v) (h2 : v < 129) (ho : o.op = .call { callee := .value x, args := args, argTypes := ts }) (hd : dstOk σ o = true) (hwt : wantA σ ops o = some true) (havs : σ.evs args.toList = some [.v (.int .i64 (v : Int))]) (hent : σ.entry x [.v (.int .i64 (v : Int))] = some (28, [.v (.int .i64 (v : Int)), .ptr 7 0 0, .ptr 8 0 0])) (h8 : lk σ.objs 8 = some topO) (h7 : 7 ∈ σ.ids) (h88 : 8 ∈ σ.ids) :
    Ok1 (EffOkR Try.prog B.ro (RW B 7 upO (fun u => Uf u r)) ops σ o ⟨o.dst, .v (.int .i64 (r v : Int)), [], looksO ops o, [7, 8], none⟩) := by
  obtain ⟨c, hcb, hsp⟩ := top_sp r
  refine eff_callW (f := 28) TT_ok ho hd hwt havs hent (by kernel_rfl) Try.func28 hcb (by simp [Try.ntmps28]) [(8, topO)] [8] (by simp) (fun k => ?_) (fun k hk => ?_) (fun k hk ob hob q hq => ?_) (fun k hk => ?_) (fun X q hq => ?_) (fun X hX B' hB1 hB2 => ?_)
  · by_cases e : k = 8
    · subst e; simp [lk, h8]
    · simp [lk, e, Ne.symm e]
  · simp [idsL, AV.ids] at hk; simp [hk]
  · simp only [List.mem_singleton] at hk
    subst hk
    rw [h8] at hob; cases hob
    simp [topO, idsLL, idsL, AV.ids] at hq; simp [hq]
  · simp only [List.mem_cons, List.not_mem_nil, or_false] at hk
    rcases hk with rfl | rfl
    · exact h7
    · exact h88
  · simp [upO, idsLL] at hq
  · refine sp_mono (hsp 128 v X h1 (by omega) h2 hX B' hB1 hB2) fun e τ hq => ?_
    obtain ⟨g1, av, g2, g3, g4, g5⟩ := hq
    refine ⟨g1, av, g2, g3, topR r 128 X v, topR_uf 128 hX h1 h2, fun k => ?_, g5⟩
    rw [g4 k]
    by_cases e : k = 7
    · rw [if_pos e, if_pos e]
    · rw [if_neg e, if_neg e]; simp [lk, Ne.symm e]
end Go.Proofs.Ytekeidhndlnghaa
