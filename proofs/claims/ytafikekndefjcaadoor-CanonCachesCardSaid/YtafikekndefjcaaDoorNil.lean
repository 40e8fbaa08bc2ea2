/- A nil slice in an object's cell as an array without elements; plain lemmas over any program; no condition. -/
import Derived.Test.YtafikekndefjcaaDoorAmB
namespace Go.Proofs.YtafikekndefjcaaDoor
set_option linter.unusedVariables false
set_option linter.unusedSimpArgs false
set_option linter.unusedSectionVars false
open Go.RowKit

theorem R.empty {B : Base} {G : Gh} {σ : AS} {w : World} {a : Act} (hr : R B G σ w a) (id : Nat) (e : TypeId) (sz : Nat) (hid : id ∉ σ.ids) (hz : 0 < sz) : G.le (G.add id (none, 0, 0, sz)) ∧ R B (G.add id (none, 0, 0, sz)) ⟨σ.n, σ.slots, (id, ⟨e, sz, []⟩) :: σ.objs, id :: σ.ids⟩ w a := by
  have hn : G.loc id = none := by
    cases hl : G.loc id with
    | none => rfl
    | some l => exact absurd (hr.ids id (by rw [hl]; simp)) hid
  have hle : G.le (G.add id (none, 0, 0, sz)) := Gh.add_le hn
  have hh := hr.heap
  have hold : ∀ k ob, lk ((id, (⟨e, sz, []⟩ : AObj)) :: σ.objs) k = some ob → k = id ∧ ob = ⟨e, sz, []⟩ ∨ k ≠ id ∧ lk σ.objs k = some ob := fun k ob hk => by
    simp only [lk] at hk
    split at hk
    · rename_i e1; cases hk; exact .inl ⟨e1.symm, rfl⟩
    · rename_i e1; exact .inr ⟨Ne.symm e1, hk⟩
  have hloc : ∀ k, k ≠ id → (G.add id (none, 0, 0, sz)).loc k = G.loc k := fun k hk => if_neg hk
  have hl0 : (G.add id (none, 0, 0, sz)).loc id = some (none, 0, 0, sz) := Gh.add_self
  refine ⟨hle, hr.n, fun s av hs => ?_, hr.defers, ⟨hh.os, hh.tape, hh.output, hh.size, hh.old, fun k ob hk => ?_, fun k ob hk b base cap z hl => ?_, fun k k' ob ob' hk hk' b x y hl hl' => ?_, hh.st, fun k ob hk b x hl => ?_, hh.fresh, hh.keep, fun k l hk => hle.loc _ _ (hh.fix k l hk), hh.pin, hh.base⟩, fun k hk => ?_⟩
  · exact ⟨(hr.slot s av hs).1, (hr.slot s av hs).2.mono hle⟩
  · rcases hold k ob hk with ⟨rfl, rfl⟩ | ⟨h1, h2⟩
    · exact .of hz ⟨none, 0, 0, hl0, Nat.le_refl _, by omega, fun i hi => by simp at hi, rfl⟩
    · exact (hh.obj k ob h2).mono hle fun _ _ _ _ _ => rfl
  · rcases hold k ob hk with ⟨rfl, rfl⟩ | ⟨h1, h2⟩
    · rw [hl0] at hl; cases hl
    · rw [hloc k h1] at hl; exact hh.own k ob h2 _ _ _ _ hl
  · rcases hold k ob hk with ⟨rfl, rfl⟩ | ⟨h1, h2⟩
    · rw [hl0] at hl; cases hl
    · rcases hold k' ob' hk' with ⟨rfl, rfl⟩ | ⟨h3, h4⟩
      · rw [hl0] at hl'; cases hl'
      · rw [hloc k h1] at hl; rw [hloc k' h3] at hl'
        exact hh.inj k k' ob ob' h2 h4 _ _ _ hl hl'
  · rcases hold k ob hk with ⟨rfl, rfl⟩ | ⟨h1, h2⟩
    · rw [hl0] at hl; cases hl
    · rw [hloc k h1] at hl; exact hh.sep k ob h2 _ _ hl
  · by_cases h1 : k = id
    · subst h1; exact List.mem_cons_self
    · rw [hloc k h1] at hk; exact List.mem_cons_of_mem _ (hr.ids k hk)
theorem R.recell {B : Base} {G : Gh} {σ : AS} {w : World} {a : Act} (hr : R B G σ w a) (k e j : Nat) {old new : AV} {ob : AObj} (hk : lk σ.objs k = some ob) (h : (ob.xs.getD e []).getD j .any = old) (hnew : ∀ v, Rv G old v → Rv G new v) (hz : 0 < ob.sz) : R B G ⟨σ.n, σ.slots, st σ.objs k { ob with xs := ob.xs.set e ((ob.xs.getD e []).set j new) }, σ.ids⟩ w a := by
  have hh := hr.heap
  have hold : ∀ q ob', lk (st σ.objs k { ob with xs := ob.xs.set e ((ob.xs.getD e []).set j new) }) q = some ob' → ∃ ob0, lk σ.objs q = some ob0 ∧ ((q = k ∧ ob0 = ob ∧ ob' = { ob with xs := ob.xs.set e ((ob.xs.getD e []).set j new) }) ∨ ob' = ob0) := fun q ob' hq => by
    rw [lk_st] at hq
    split at hq
    · rename_i e1; subst e1; cases hq; exact ⟨ob, hk, .inl ⟨rfl, rfl, rfl⟩⟩
    · exact ⟨ob', hq, .inr rfl⟩
  refine ⟨hr.n, hr.slot, hr.defers, ⟨hh.os, hh.tape, hh.output, hh.size, hh.old, fun q ob' hq => ?_, fun q ob' hq => ?_, fun q q' ob1 ob2 hq hq' => ?_, hh.st, fun q ob' hq => ?_, hh.fresh, hh.keep, hh.fix, hh.pin, hh.base⟩, hr.ids⟩
  · obtain ⟨ob0, h1, h2⟩ := hold q ob' hq
    rcases h2 with ⟨rfl, rfl, rfl⟩ | rfl
    · obtain ⟨blk, base, cap, g1, g2, g3, g4, g5⟩ := (hh.obj q _ h1).cells hz
      have hget : ∀ i, (ob0.xs.set e ((ob0.xs.getD e []).set j new)).getD i [] = if i = e ∧ e < ob0.xs.length then (ob0.xs.getD e []).set j new else ob0.xs.getD i [] := fun i => by
        by_cases h1 : i = e
        · subst h1
          by_cases h2 : i < ob0.xs.length
          · simp [List.getD, h2]
          · simp [List.getD, h2]
        · simp [List.getD, List.getElem?_set, Ne.symm h1, h1]
      refine .of hz ⟨blk, base, cap, g1, by simpa using g2, g3, fun i hi => ?_, ?_⟩
      · simp only [List.length_set] at hi
        rw [hget]
        split
        · rename_i h2; rw [List.length_set]; obtain ⟨rfl, _⟩ := h2; exact g4 _ hi
        · exact g4 i hi
      · cases blk with
        | none => exact g5
        | some b =>
          obtain ⟨vs, g6, g7, g8⟩ := g5
          refine ⟨vs, g6, g7, fun i l hi hl => ?_⟩
          simp only [List.length_set] at hi
          obtain ⟨g9, g10⟩ := g8 i l hi hl
          refine ⟨g9, ?_⟩
          rw [hget]
          split
          · rename_i h2
            obtain ⟨rfl, h3⟩ := h2
            by_cases hjl : l = j
            · subst hjl
              rw [h] at g10
              have hlen : l < (ob0.xs.getD i []).length := by rw [g4 i hi]; exact hl
              have : ((ob0.xs.getD i []).set l new).getD l .any = new := by
                generalize ob0.xs.getD i [] = r at hlen
                simp [List.getD, hlen]
              rw [this]
              exact hnew _ g10
            · have : ((ob0.xs.getD i []).set j new).getD l .any = (ob0.xs.getD i []).getD l .any := by simp [List.getD, List.getElem?_set, Ne.symm hjl]
              rw [this]; exact g10
          · exact g10
    · exact hh.obj q _ h1
  · obtain ⟨ob0, h1, _⟩ := hold q ob' hq; exact fun b base cap z hl => hh.own q ob0 h1 b base cap z hl
  · obtain ⟨o1, h1, _⟩ := hold q ob1 hq
    obtain ⟨o2, h2, _⟩ := hold q' ob2 hq'
    exact fun b x y => hh.inj q q' o1 o2 h1 h2 b x y
  · obtain ⟨ob0, h1, _⟩ := hold q ob' hq; exact fun b x hl => hh.sep q ob0 h1 b x hl
theorem s_cnil {P : Program} {B : Base} {c : Code} {σ : AS} {Q : Exit → AS → Prop} (k e j id : Nat) (et : TypeId) (sz : Nat) {ob : AObj} (hk : lk σ.objs k = some ob) (h : (ob.xs.getD e []).getD j .any = .v (.slice none 0 0)) (hid : id ∉ σ.ids)
    (kk : SP P B c ⟨σ.n, σ.slots, st ((id, ⟨et, sz, []⟩) :: σ.objs) k { ob with xs := ob.xs.set e ((ob.xs.getD e []).set j (.ref id 0 0)) }, id :: σ.ids⟩ Q) (hne : id ≠ k) (hz : 0 < ob.sz := by exact Nat.succ_pos _) (hsz : 0 < sz := by decide) : SP P B c σ Q := fun D0 G w a hr => by
  obtain ⟨h1, h2⟩ := hr.empty id et sz hid hsz
  refine kk D0 _ w a (h2.recell k e j (by show (if id = k then _ else lk σ.objs k) = _; rw [if_neg hne]; exact hk) h (fun v hv => ?_) hz)
  rw [hv.v_eq]
  exact .ref id 0 0 none 0 0 sz none Gh.add_self (Nat.le_refl _) (by omega) (fun h => by omega) (fun _ => rfl)
end Go.Proofs.YtafikekndefjcaaDoor
