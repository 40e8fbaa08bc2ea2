/- An abstract machine for the text, part twenty-one: a call that reads what it is handed and makes one object, in a region of open order; plain lemmas over any program; no condition. -/
import Derived.Test.YtafikekndefjcaaDoorAm20
namespace Go.Proofs.YtafikekndefjcaaDoor
set_option linter.unusedVariables false
set_option linter.unusedSimpArgs false
set_option linter.unusedSectionVars false
open Go.RowKit
structure Ok1 (p : Prop) : Prop where
  h : p
section
variable {P : Program} {TT : TTab} {PT : PTab} {B : Base} {ops : Array Oper} {es : List Ef}
theorem eff_call (hTT : TTok P TT) {σ : AS} {o : Oper} {x : Operand} {args : Array Operand} {ts : Array TypeId} {avs : List AV} {f : FuncId} {L : List AV} {fn : Func} {c : Code}
    (ho : o.op = .call { callee := .value x, args := args, argTypes := ts }) (hd : dstOk σ o = true) (hwt : wantA σ ops o = some true) (havs : σ.evs args.toList = some avs) (hent : σ.entry x avs = some (f, L)) (hfn : fnB P f = true) (hf : P.funcs[f]? = some fn) (hb : fn.body = some c) (hle : L.length ≤ fn.ntmps)
    (objs : List (Nat × AObj)) (fs : List Nat) (hF0 : ∀ k, lk objs k = if k ∈ fs then lk σ.objs k else none) (hL : ∀ k ∈ idsL L, k ∈ fs) (hcl0 : ∀ k ∈ fs, ∀ ob, lk σ.objs k = some ob → ∀ q ∈ idsLL ob.xs, q ∈ fs) (hfs : ∀ k ∈ fs, k ∈ σ.ids) {id : Nat} (hid : id ∉ σ.ids) {av : AV} {ob' : AObj}
    (h : ∀ B' : Base, B'.I0 = fs → B'.ro = none → SP P B' c ⟨fn.ntmps, enumA 0 L, objs, fs⟩ (fun e τ => (e = .normal ∨ e = .ret) ∧ ∃ av', retA TT τ fn.results.toList = some av' ∧ (av' = av ∧ (∀ k, lk τ.objs k = if k = id then some ob' else lk objs k) ∧ ∀ k, k ∈ τ.ids ↔ k = id ∨ k ∈ fs))) :
    Ok1 (EffOk P B ops σ o ⟨o.dst, av, [(id, some ob')], looksO ops o, id :: fs, none⟩) := by
  constructor
  intro τ hn hs hobj hidk hsh G w a hr K Q hK
  simp only at hs hobj hidk
  have hd' : dstOk τ o = true := by unfold dstOk at hd ⊢; rw [hn]; exact hd
  have hev : ∀ x ∈ o.op.operands.toList, τ.ev x = σ.ev x := fun x hx => by
    cases x with
    | tmp t => exact hs t (by rw [looksO, List.mem_append]; exact .inl (List.mem_filterMap.2 ⟨.tmp t, hx, rfl⟩))
    | _ => rfl
  have hw : wantA τ ops o = wantA σ ops o := by
    unfold wantA
    split
    · rfl
    · rename_i j want hg
      split
      · rename_i t ht
        rw [hs t (by rw [looksO, List.mem_append]; right; rw [hg]; simp only [ht]; simp)]
      · rfl
  rw [← hw] at hwt
  have hops : ∀ y, y = x ∨ y ∈ args.toList → y ∈ o.op.operands.toList := fun y hy => by
    rw [ho]
    simp only [Op.operands]
    unfold Call.operands
    simp only [Array.toList_append, List.mem_append]
    rcases hy with rfl | hy
    · left; simp
    · exact .inr hy
  have havs' : τ.evs args.toList = some avs := by rw [evs_congr fun y hy => hev y (hops y (.inr hy))]; exact havs
  have hent' : τ.entry x avs = some (f, L) := by
    rw [← hent]
    unfold AS.entry AS.callee AS.bound
    rw [hev x (hops x (.inl rfl))]
  rw [if_pos (wantA_ok hr hwt)]
  obtain ⟨argv, hop, h1, h2⟩ := enters_entry ho hfn hent' havs' B G w a hr
  have hfp : ∀ k ∈ fs, lk τ.objs k = lk σ.objs k := fun k hk => hobj k (List.mem_cons_of_mem _ hk)
  have hF : ∀ k, lk objs k = if k ∈ fs then lk τ.objs k else none := fun k => by
    rw [hF0]
    by_cases hk : k ∈ fs
    · rw [if_pos hk, if_pos hk, hfp k hk]
    · rw [if_neg hk, if_neg hk]
  have hcl : ∀ k ∈ fs, ∀ ob, lk τ.objs k = some ob → ∀ q ∈ idsLL ob.xs, q ∈ fs := fun k hk ob hob => hcl0 k hk ob (by rw [← hfp k hk]; exact hob)
  have hidt : id ∉ τ.ids := fun hk => hid ((hidk id List.mem_cons_self).1 hk)
  have hfst : ∀ k ∈ fs, k ∈ τ.ids := fun k hk => (hidk k (List.mem_cons_of_mem _ hk)).2 (hfs k hk)
  refine ⟨fun _ _ => trivial, ?_⟩
  rw [show (FR B.ro).round = B.ro from rfl, Oper.semAt_eq B.ro a.eval o (fun c hc => by rw [ho] at hc; cases hc), hop, Oper.uponIn_enter]
  refine ⟨fun e => (by cases e), FR_calls.2 ?_⟩
  have hsub := hr.subF hF (fun k hk => hk) hcl (n := fn.ntmps) (slots := enumA 0 L) (a' := { tmps := argv ++ Array.replicate (fn.ntmps - argv.size) undef, defers := [] }) (by simp; omega) (fun t av ht => by
    obtain ⟨q1, q2⟩ := entry_slots (m := fn.ntmps - argv.size) hle h1 h2 t av ht
    refine ⟨q1, q2, fun k hk => hL k ?_⟩
    obtain ⟨_, q3, q4⟩ := lk_enumA L 0 t av ht
    simp only [Nat.zero_add, Nat.sub_zero] at q3 q4
    subst q4
    exact idsL_mem q3 hk) rfl
  refine (call_sp hTT hf hb rfl hsub (K := fun av' τ' => av' = av ∧ (∀ k, lk τ'.objs k = if k = id then some ob' else lk objs k) ∧ ∀ k, k ∈ τ'.ids ↔ k = id ∨ k ∈ fs) (h _ rfl rfl)).mono fun e w' hq => ?_
  obtain ⟨v, G2, τ2, av2, a2, rfl, hr2, hv, rfl, hK2, hK3⟩ := hq
  obtain ⟨G', hle2, hle', hr3⟩ := hr.backF hF (fun k hk => hk) hr2 (fun k hk hkf => by
    rcases (hK3 k).1 hk with rfl | h
    · exact hidt
    · exact absurd h hkf)
  refine hK G' w' _ ?_
  have h4 : R B G' (τ.upd [(id, some ob')]) w' a := StEq.R (σ := τ.upd (τ2.ids.reverse.map fun k => (k, lk τ2.objs k))) (τ := τ.upd [(id, some ob')]) ⟨rfl, fun _ => rfl, fun k => ?_, fun k => ?_⟩ hr3
  · have := h4.put (fun d hdd => R.dst (G := G) (w := w) (a := a) hd' d hdd) (hv.mono hle2)
    unfold Ef.app Ef.pk pntO
    simpa [AS.upd] using this
  · have e1 := lk_updMap (fun k => lk τ2.objs k) k τ2.ids.reverse τ.objs
    show lk (updO τ.objs (τ2.ids.reverse.map fun k => (k, lk τ2.objs k))) k = lk (updO τ.objs [(id, some ob')]) k
    rw [e1]
    simp only [List.mem_reverse, updO, lk_st]
    by_cases hk : k = id
    · subst hk
      rw [if_pos ((hK3 _).2 (.inl rfl)), hK2, if_pos rfl, if_pos rfl]
    · rw [if_neg (show ¬ id = k from fun e => hk e.symm)]
      by_cases hkf : k ∈ fs
      · rw [if_pos ((hK3 k).2 (.inr hkf)), hK2, if_neg hk, hF, if_pos hkf]
      · rw [if_neg (fun e => by rcases (hK3 k).1 e with e | e; exact hk e; exact hkf e)]
  · show k ∈ updI τ.ids (τ2.ids.reverse.map fun k => (k, lk τ2.objs k)) ↔ k ∈ updI τ.ids [(id, some ob')]
    rw [updI_mem, updI_mem]
    simp only [List.map_map, List.mem_map, List.mem_reverse, Function.comp, List.map_cons, List.map_nil, List.mem_singleton]
    constructor
    · rintro (⟨q, hq, rfl⟩ | hk)
      · rcases (hK3 q).1 hq with rfl | h
        · exact .inl rfl
        · exact .inr (hfst q h)
      · exact .inr hk
    · rintro (rfl | hk)
      · exact .inl ⟨k, (hK3 k).2 (.inl rfl), rfl⟩
      · exact .inr hk
open Classical in
noncomputable def effOr (TT : TTab) (PT : PTab) (ops : Array Oper) (σ0 : AS) (o0 : Oper) (e0 : Ef) (id : Nat) (σ : AS) (o : Oper) : Option Ef := if o = o0 ∧ σ = σ0 then some e0 else effA TT PT ops id σ o
theorem s_drawX {σ' : AS} {σ : AS} {Q : Exit → AS → Prop} (hP : P.follows .mixedOrders = true) (hTT : TTok P TT) (hPT : PTok P PT) {σ0 : AS} {o0 : Oper} {e0 : Ef} (he0 : ∀ D, Ok1 (EffOk P (B.d D) ops σ0 o0 e0)) {id q : Nat} (h : runG (effOr TT PT ops σ0 o0 e0) ops.toList q σ = some (σ', es)) (hok : ordOk ops.toList es = true) (k : Q .normal σ') : SP P B (.region id ops true) σ Q := by
  refine s_drawG hP (fun D id σ o e he => ?_) h hok k
  unfold effOr at he
  split at he
  · rename_i hc
    obtain ⟨rfl, rfl⟩ := hc
    cases he
    exact (he0 D).h
  · exact effA_eff hTT hPT he
theorem runX_nil {eff : Nat → AS → Oper → Option Ef} {id : Nat} {σ : AS} : runG eff [] id σ = some (σ, []) := rfl
theorem runX_cons {σ0 : AS} {o0 : Oper} {e0 e : Ef} {id : Nat} {o : Oper} {r : List Oper} {σ σ1 σ' : AS} (hne : o.dst ≠ o0.dst) (h : effA TT PT ops id σ o = some e) (h1 : e.app σ = σ1) (k : runG (effOr TT PT ops σ0 o0 e0) r (id + 1) σ1 = some (σ', es)) : runG (effOr TT PT ops σ0 o0 e0) (o :: r) id σ = some (σ', e :: es) := by
  have : effOr TT PT ops σ0 o0 e0 id σ o = some e := by
    unfold effOr
    rw [if_neg (fun hc => hne (by rw [hc.1]))]; exact h
  simp only [runG, this, h1, k]
theorem runX_call {σ0 : AS} {o0 : Oper} {e0 : Ef} {id : Nat} {r : List Oper} {σ1 σ' : AS} (h1 : e0.app σ0 = σ1) (k : runG (effOr TT PT ops σ0 o0 e0) r (id + 1) σ1 = some (σ', es)) : runG (effOr TT PT ops σ0 o0 e0) (o0 :: r) id σ0 = some (σ', e0 :: es) := by
  have : effOr TT PT ops σ0 o0 e0 id σ0 o0 = some e0 := by
    unfold effOr
    rw [if_pos ⟨rfl, rfl⟩]
  simp only [runG, this, h1, k]
end
end Go.Proofs.YtafikekndefjcaaDoor
