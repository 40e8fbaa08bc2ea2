/- An abstract machine for the text, part twenty-three: a call that returns objects of its own, in a region of open order; pairs of operations that are shown free by hand; plain lemmas over any program; no condition. -/
import Derived.Test.YthdjgcjpolpgdaaAm22
import Derived.Test.YthdjgcjpolpgdaaOb2
namespace Go.Proofs.Ythdjgcjpolpgdaa
set_option linter.unusedVariables false
set_option linter.unusedSimpArgs false
set_option linter.unusedSectionVars false
open Go.RowKit
section
variable {P : Program} {TT : TTab} {PT : PTab} {B : Base} {ops : Array Oper} {es : List Ef}
theorem eff_objs {σ : AS} {o : Oper} {x : Operand} {args : Array Operand} {ts : Array TypeId} {avs : List AV} {f : FuncId} {res : AV} {objs : List (Nat × AObj)} {ids : List Nat}
    (ho : o.op = .call { callee := .value x, args := args, argTypes := ts }) (hd : dstOk σ o = true) (hwt : wantA σ ops o = some true) (havs : σ.evs args.toList = some avs) (hent : σ.entry x avs = some (f, avs)) (hfn : fnB P f = true) (hp : idsL avs = []) (hF : FnObj P f avs res objs ids) (q : Nat) {NM : List Nat} {F : Nat → Option AObj} (hNM : ∀ k, k ∈ NM ↔ k ∈ ids.map (· + q)) (hFk : ∀ k ∈ NM, F k = lk (shO q objs) k ∧ lk (shO q objs) k ≠ none) (hno : ∀ k, k ∉ NM → lk (shO q objs) k = none) (hid : ∀ i ∈ ids, i + q ∉ σ.ids) :
    Ok1 (EffOk P B ops σ o ⟨o.dst, res.ren (· + q), NM.map fun k => (k, F k), looksO ops o, NM, none⟩) := by
  constructor
  intro τ hn hs hobj hidk hsh G w a hr K Q hK
  simp only at hs hobj hidk
  have hd' : dstOk τ o = true := by unfold dstOk at hd ⊢; rw [hn]; exact hd
  have hev : ∀ x ∈ o.op.operands.toList, τ.ev x = σ.ev x := fun x hx => by
    cases x with
    | tmp t => exact hs t (by rw [looksO, List.mem_append]; exact .inl (List.mem_filterMap.2 ⟨.tmp t, hx, rfl⟩))
    | _ => rfl
  have hw : wantA τ ops o = wantA σ ops o := by
    unfold wantA
    split
    · rfl
    · rename_i j want hg
      split
      · rename_i t ht
        rw [hs t (by rw [looksO, List.mem_append]; right; rw [hg]; simp only [ht]; simp)]
      · rfl
  rw [← hw] at hwt
  have hops : ∀ y, y = x ∨ y ∈ args.toList → y ∈ o.op.operands.toList := fun y hy => by
    rw [ho]
    simp only [Op.operands]
    unfold Call.operands
    simp only [Array.toList_append, List.mem_append]
    rcases hy with rfl | hy
    · left; simp
    · exact .inr hy
  have havs' : τ.evs args.toList = some avs := by rw [evs_congr fun y hy => hev y (hops y (.inr hy))]; exact havs
  have hent' : τ.entry x avs = some (f, avs) := by
    rw [← hent]
    unfold AS.entry AS.callee AS.bound
    rw [hev x (hops x (.inl rfl))]
  rw [if_pos (wantA_ok hr hwt)]
  obtain ⟨argv, hop, h1, h2⟩ := enters_entry ho hfn hent' havs' B G w a hr
  have hidt : ∀ i ∈ ids, i + q ∉ τ.ids := fun i hi hk => hid i hi ((hidk (i + q) ((hNM _).2 (List.mem_map.2 ⟨i, hi, rfl⟩))).1 hk)
  refine ⟨fun _ _ => trivial, ?_⟩
  rw [show (FR B.ro).round = B.ro from rfl, Oper.semAt_eq B.ro a.eval o (fun c hc => by rw [ho] at hc; cases hc), hop, Oper.uponIn_enter]
  refine ⟨fun e => (by cases e), FR_calls.2 ?_⟩
  refine (hF.2 G.S w argv hr.heap.stOk h1 (fun i hi => Rv.pure (G := G) (G' := G0 G.S) (fun _ _ _ h => h) (h2 i hi) (by
      refine List.eq_nil_iff_forall_not_mem.2 fun j hj => ?_
      have := idsL_mem hi hj
      rw [hp] at this; cases this))).mono fun e w' hl => ?_
  obtain ⟨v, G2, a2, rfl, h3, h4⟩ := hl
  obtain ⟨G', g1, g2, g3⟩ := hr.gain (q := q) hidt hF.1 h3 h4
  refine hK G' w' _ ?_
  have h5 : R B G' (τ.upd (NM.map fun k => (k, F k))) w' a := StEq.R (σ := ⟨τ.n, τ.slots, shO q objs ++ τ.objs, ids.map (· + q) ++ τ.ids⟩) (τ := τ.upd (NM.map fun k => (k, F k))) ⟨rfl, fun _ => rfl, fun k => by
    show lk (shO q objs ++ τ.objs) k = lk (updO τ.objs (NM.map fun k => (k, F k))) k
    rw [lk_updMap, lk_append]
    by_cases hk : k ∈ NM
    · rw [if_pos hk, (hFk k hk).1]
      cases hx : lk (shO q objs) k with
      | none => exact absurd hx (hFk k hk).2
      | some x => rfl
    · rw [if_neg hk, hno k hk], fun k => by
    show k ∈ ids.map (· + q) ++ τ.ids ↔ k ∈ updI τ.ids (NM.map fun k => (k, F k))
    rw [updI_mem, List.mem_append, List.map_map, ← hNM]
    simp [Function.comp_def]⟩ g2
  have := h5.put (fun d hdd => R.dst (G := G) (w := w) (a := a) hd' d hdd) g3
  unfold Ef.app Ef.pk pntO
  simpa [AS.upd] using this
def ordOkS (ops : List Oper) (es : List Ef) (sk : List (Nat × Nat)) : Bool :=
  (List.range ops.length).all (fun j => ((ops[j]?).map fun o => o.after.toList.all fun e => !(Region.binds .any e) || decide (e.on < j)).getD false) &&
  (List.range es.length).all fun j => (List.range j).all fun i => ((ancs ops).getD j []).contains i || sk.contains (i, j) || free (es.getD i default) (es.getD j default)
theorem ordOk_skip {ops : List Oper} {es : List Ef} (sk : List (Nat × Nat)) (h : ordOkS ops es sk = true) (hs : ∀ p ∈ sk, free (es.getD p.1 default) (es.getD p.2 default) = true) : ordOk ops es = true := by
  unfold ordOkS at h
  unfold ordOk
  rw [Bool.and_eq_true] at h ⊢
  refine ⟨h.1, ?_⟩
  have h2 := h.2
  rw [List.all_eq_true] at h2 ⊢
  intro j hj
  have h3 := h2 j hj
  rw [List.all_eq_true] at h3 ⊢
  intro i hi
  have h4 := h3 i hi
  rw [Bool.or_eq_true, Bool.or_eq_true] at h4
  rw [Bool.or_eq_true]
  rcases h4 with (h4 | h4) | h4
  · exact .inl h4
  · exact .inr (hs (i, j) (by simpa using h4))
  · exact .inr h4
end
end Go.Proofs.Ythdjgcjpolpgdaa
