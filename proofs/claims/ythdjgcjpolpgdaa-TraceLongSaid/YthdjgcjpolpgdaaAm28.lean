/- What a function returns in objects of its own, alone or in a tuple, lies in new memory alone; plain lemmas over any program; no condition. -/
import Derived.Test.YthdjgcjpolpgdaaAm20
namespace Go.Proofs.Ythdjgcjpolpgdaa
set_option linter.unusedVariables false
set_option linter.unusedSimpArgs false
set_option linter.unusedSectionVars false
open Go.RowKit
def plain1 : AV → Bool
  | .v _ => true
  | .ref _ _ _ => true
  | _ => false
theorem Rv.plain1 {S S' : Nat → Nat → Option Value} {L : Nat → Option (Option Nat × Nat × Nat × Nat)} {av : AV} {v : Value} (hp : plain1 av = true) (h : Rv ⟨S, L⟩ av v) : Rv ⟨S', L⟩ av v := by
  cases h with
  | v => exact .v _
  | ref k off n blk base cap sz a hk hle hm hb h0 => exact .ref k off n blk base cap sz a hk hle hm hb h0
  | _ => cases hp
theorem scalar_fresh {P : Program} {f : FuncId} {args : List AV} {res : AV} (h : FnPure P f args res) (hs : res.scalar = true) : FnFresh P f args res := fun S w vs hS hn hv =>
  (h S w vs hS hn hv).mono fun _ _ ⟨v, _, he, hb, _, _, _, hr⟩ => ⟨v, he, hb, hr.scalar hs⟩
theorem obj_fresh2 {P : Program} {f : FuncId} {args : List AV} {r0 r1 : AV} {objs : List (Nat × AObj)} {ids : List Nat} (hg : ∀ S, GlobIn S) (hF : FnObj P f args (.tup [r0, r1]) objs ids) (p0 : plain1 r0 = true) (p1 : plain1 r1 = true)
    (hob : ∀ k ob, lk objs k = some ob → 0 < ob.sz ∧ ∀ r ∈ ob.xs, ∀ c ∈ r, plain1 c = true) (D1 D2 : Nat → Bool) {a b : AV} (ha : lk (((⟨2, [(0, r0), (1, r1)], objs, ids⟩ : AS).frz D1).frz D2).slots 0 = some a) (hb : lk (((⟨2, [(0, r0), (1, r1)], objs, ids⟩ : AS).frz D1).frz D2).slots 1 = some b) (hi : a.ids = [] ∧ b.ids = []) : FnFresh P f args (.tup [a, b]) := by
  intro S w vs hS hn hv
  refine (hF.2 S w vs hS hn hv).mono fun e w' ⟨v, G', a', he, hr, hrv⟩ => ?_
  have hh := hr.heap
  cases hrv with
  | tup _ us hl h2 =>
  have q0 := h2 0 (by simp)
  have q1 := h2 1 (by simp)
  have h1 : R (base0 (fun _ _ => none) w) (⟨fun _ _ => none, G'.loc⟩ : Gh) ⟨2, [(0, r0), (1, r1)], objs, ids⟩ w' { tmps := #[us.getD 0 undef, us.getD 1 undef], defers := [] } := by
    refine ⟨rfl, fun t av ht => ?_, rfl, ⟨hh.os, hh.tape, hh.output, hh.size, hh.old, fun k o hk => ?_, hh.own, hh.inj, fun b o u h => (by cases h), fun k o hk b x hl p => rfl, fun b o u h => (by cases h), fun b o u h => (by cases h), fun k l h => (by cases h), fun r h => (by cases h), ⟨List.nodup_nil, fun k l h => (by cases h), hg _⟩⟩, hr.ids⟩
    · simp only [lk] at ht
      split at ht
      · rename_i e0; cases ht; subst e0
        exact ⟨Nat.succ_pos 1, Rv.plain1 (S := G'.S) p0 q0⟩
      · split at ht
        · rename_i e0; cases ht; subst e0
          exact ⟨Nat.lt_succ_self 1, Rv.plain1 (S := G'.S) p1 q1⟩
        · cases ht
    · obtain ⟨hz, hpl⟩ := hob k o hk
      obtain ⟨blk, base, cap, g1, g2, g3, g4, g5⟩ := (hh.obj k o hk).cells hz
      refine Robj.of hz ⟨blk, base, cap, g1, g2, g3, g4, ?_⟩
      cases blk with
      | none => exact g5
      | some b =>
        obtain ⟨us, q1, q2, q3⟩ := g5
        refine ⟨us, q1, q2, fun i j hi hj => ⟨(q3 i j hi hj).1, Rv.plain1 (S := G'.S) ?_ (q3 i j hi hj).2⟩⟩
        have hl := g4 i hi
        have e1 : o.xs.getD i [] = o.xs[i] := by simp [List.getD, hi]
        rw [e1] at hl ⊢
        have e2 : (o.xs[i]).getD j .any = (o.xs[i])[j] := by simp [List.getD, hl, hj]
        rw [e2]
        exact hpl _ (List.getElem_mem hi) _ (List.getElem_mem _)
  have h3 := (h1.frz D1).frz D2
  obtain ⟨_, h4⟩ := h3.slot 0 a ha
  obtain ⟨_, h5⟩ := h3.slot 1 b hb
  refine ⟨_, he, ?_, .tup _ us (by simpa using hl) fun i hi2 => ?_⟩
  · exact ⟨hh.os, hh.tape, hh.output, hh.size, fun b hb => hh.old b hb (by simp [base0])⟩
  · match i, hi2 with
    | 0, _ =>
      refine Rv.pure (fun b p u h => ?_) h4 hi.1
      have hst := h3.heap.st b p u h
      rcases h3.heap.fresh b p u h with hb | hb | hb
      · cases hb
      · show (if b < w.heap.size then none else _) = some u
        rw [if_neg (by have : w.heap.size ≤ b := hb; omega)]
        exact hst
      · cases hb
    | 1, _ =>
      refine Rv.pure (fun b p u h => ?_) h5 hi.2
      have hst := h3.heap.st b p u h
      rcases h3.heap.fresh b p u h with hb | hb | hb
      · cases hb
      · show (if b < w.heap.size then none else _) = some u
        rw [if_neg (by have : w.heap.size ≤ b := hb; omega)]
        exact hst
      · cases hb
end Go.Proofs.Ythdjgcjpolpgdaa
