/- A call that is lent some objects; plain lemmas over any program; no condition. -/
import Derived.Test.YtecdhmiamlgibaaDoorJf
namespace Go.Proofs.YtecdhmiamlgibaaDoor
set_option linter.unusedVariables false
set_option linter.unusedSimpArgs false
set_option linter.unusedSectionVars false
open Go.RowKit
set_option maxRecDepth 100000
theorem s_weakI {P : Program} {B : Base} {c : Code} {σ : AS} {Q : Exit → AS → Prop} {I : List Nat} (hI : B.I0 = I) (τ : AS) (h : WeakI I σ τ) (k : SP P B c τ Q) : SP P B c σ Q := sp_weak (by rw [hI]; exact h) k
section
variable {P : Program} {TT : TTab} {PT : PTab} {B : Base} {ops : Array Oper}
theorem spl_lend (hTT : TTok P TT) {σ : AS} {Q : Exit → AS → Prop} {o : Oper} {r : List Oper} {x : Operand} {args : Array Operand} {ts : Array TypeId} {avs : List AV} {f : FuncId} {L : List AV} {fn : Func} {c : Code}
    (ho : o.op = .call { callee := .value x, args := args, argTypes := ts }) (hd : dstOk σ o = true) (hwt : wantA σ ops o = some true) (havs : σ.evs args.toList = some avs) (hent : σ.entry x avs = some (f, L)) (hfn : fnB P f = true) (hf : P.funcs[f]? = some fn) (hb : fn.body = some c) (hle : L.length ≤ fn.ntmps)
    (objs : List (Nat × AObj)) (fs : List Nat) (hF : ∀ k, lk objs k = if k ∈ fs then lk σ.objs k else none) (hL : ∀ k ∈ idsL L, k ∈ fs) (hcl : ∀ k ∈ fs, ∀ ob, lk σ.objs k = some ob → ∀ q ∈ idsLL ob.xs, q ∈ fs) {av : AV} (hav : av.ids = []) (objs' : List (Nat × AObj)) (ids' : List Nat) (hnew : ∀ k ∈ ids', k ∈ fs ∨ k ∉ σ.ids)
    (h : ∀ B' : Base, B'.I0 = fs → B'.ro = none → SP P B' c ⟨fn.ntmps, enumA 0 L, objs, fs⟩ (fun e τ => (e = .normal ∨ e = .ret) ∧ ∃ av', retA TT τ fn.results.toList = some av' ∧ (av' = av ∧ WeakI fs ⟨τ.n, [], τ.objs, τ.ids⟩ ⟨τ.n, [], objs', ids'⟩)))
    (k : SPL P B ops r (AS.put (σ.upd (ids'.map fun k => (k, lk objs' k))) o.dst av) Q) : SPL P B ops (o :: r) σ Q := fun D G w a hr => by
  unfold wpListIn
  rw [if_pos (wantA_ok hr hwt)]
  obtain ⟨argv, hop, h1, h2⟩ := enters_entry ho hfn hent havs (B.d D) G w a hr
  refine ⟨fun _ _ => trivial, ?_⟩
  rw [show (FR B.ro).round = B.ro from rfl, Oper.semAt_eq B.ro a.eval o (fun c hc => by rw [ho] at hc; cases hc), hop, Oper.uponIn_enter]
  refine ⟨fun e => (by cases e), FR_calls.2 ?_⟩
  have hsub := hr.subF hF (fun k hk => hk) hcl (n := fn.ntmps) (slots := enumA 0 L) (a' := { tmps := argv ++ Array.replicate (fn.ntmps - argv.size) undef, defers := [] }) (by simp; omega) (fun t av ht => by
    obtain ⟨q1, q2⟩ := entry_slots (m := fn.ntmps - argv.size) hle h1 h2 t av ht
    refine ⟨q1, q2, fun k hk => hL k ?_⟩
    obtain ⟨_, q3, q4⟩ := lk_enumA L 0 t av ht
    simp only [Nat.zero_add, Nat.sub_zero] at q3 q4
    subst q4
    exact idsL_mem q3 hk) rfl
  refine (call_sp hTT hf hb rfl hsub (K := fun av' τ' => av' = av ∧ WeakI fs ⟨τ'.n, [], τ'.objs, τ'.ids⟩ ⟨τ'.n, [], objs', ids'⟩) (h _ rfl rfl)).mono fun e w' hq => ?_
  obtain ⟨v, G2, τ1, av2, a2, rfl, hr1, hv, rfl, _, ρ, _, g2, g3, g4⟩ := hq
  have hr2 := hr1.weakG (τ := ⟨τ1.n, [], objs', ids'⟩) ρ rfl (fun t av ht => by cases ht) g2 g3 g4
  have hv2 : Rv (⟨G2.S, fun k => if k ∈ ids' then G2.loc (ρ k) else none⟩ : Gh) av2 v := Rv.pure (G := G2) (G' := ⟨G2.S, fun k => if k ∈ ids' then G2.loc (ρ k) else none⟩) (fun _ _ _ h => h) hv hav
  generalize hG3 : (⟨G2.S, fun k => if k ∈ ids' then G2.loc (ρ k) else none⟩ : Gh) = G3 at hv2
  replace hr2 : R ((Base.sub (G.only fs) ⟨σ.n, [], objs, fs⟩ w none).d []) G3 ⟨τ1.n, [], objs', ids'⟩ w' a2 := hG3 ▸ hr2
  obtain ⟨G', hle2, hle', hr3⟩ := hr.backF hF (fun k hk => hk) hr2 (fun k hk hkf => (hnew k hk).resolve_left hkf)
  have h4 : R (B.d D) G' (σ.upd (ids'.map fun k => (k, lk objs' k))) w' a := StEq.R (σ := σ.upd (ids'.reverse.map fun k => (k, lk objs' k))) (τ := σ.upd (ids'.map fun k => (k, lk objs' k))) ⟨rfl, fun _ => rfl, fun k => ?_, fun k => ?_⟩ hr3
  · exact k D G' w' _ (h4.put (fun d hdd => R.dst (G := G) (w := w) (a := a) (σ := σ) hd d hdd) (hv2.mono hle2))
  · have e1 := lk_updMap (fun k => lk objs' k) k ids'.reverse σ.objs
    have e2 := lk_updMap (fun k => lk objs' k) k ids' σ.objs
    show lk (updO σ.objs (ids'.reverse.map fun k => (k, lk objs' k))) k = lk (updO σ.objs (ids'.map fun k => (k, lk objs' k))) k
    rw [e1, e2]
    simp only [List.mem_reverse]
  · show k ∈ updI σ.ids (ids'.reverse.map fun k => (k, lk objs' k)) ↔ k ∈ updI σ.ids (ids'.map fun k => (k, lk objs' k))
    rw [updI_mem, updI_mem]
    simp only [List.map_map, List.mem_map, List.mem_reverse, Function.comp]
end
end Go.Proofs.YtecdhmiamlgibaaDoor
