/- What a function returns in objects of its own, read as values that stay; no condition. -/
import Derived.Test.YthdjgcjpolpgdaaOb6
namespace Go.Proofs.Ythdjgcjpolpgdaa
set_option linter.unusedVariables false
set_option linter.unusedSimpArgs false
set_option linter.unusedSectionVars false
open Go.RowKit
set_option maxRecDepth 100000
section
variable {P : Program} {σ : AS} {o : Oper}
structure ReadT (G : Gh) (w : World) (objs : List (Nat × AObj)) (T : Nat → Nat → Option Value) : Prop where
  st : ∀ b o u, G.S b o = some u → T b o = some u
  ob : ∀ k ob b x p u, lk objs k = some ob → G.loc k = some (some b, x) → w.cell? ⟨b, p, none⟩ = some u → T b p = some u
theorem obj_pure {f : FuncId} {args : List AV} {res : AV} {objs : List (Nat × AObj)} {ids : List Nat} {res' : AV} (hF : FnObj P f args res objs ids)
    (hrd : ∀ (B : Base) (G : Gh) (n : Nat) (w : World) (a : Act) (v : Value) (T : Nat → Nat → Option Value), R B G ⟨n, [], objs, ids⟩ w a → ReadT G w objs T → Rv G res v → Rv (G0 T) res' v) : FnPure P f args res' := fun S w vs hS hn hv =>
  (hF.2 S w vs hS hn hv).mono fun e w' ⟨v, G', a', he, hr, hrv⟩ => by
    have hh := hr.heap
    have hb : Below w.heap.size w w' := ⟨hh.os, hh.tape, hh.output, hh.size, fun b hb => hh.old b hb (by simp [base0])⟩
    refine ⟨v, fun b o => if b < w.heap.size then S b o else w'.cell? ⟨b, o, none⟩, he, hb, fun b o u hs => ?_, fun b o u hs => ?_, fun b o u hs => ?_, hrd _ _ _ _ _ _ _ hr ⟨fun b o u hs => ?_, fun k ob b x p u hk hl hc => ?_⟩ hrv⟩
    · have := World.block_lt_of_cell? _ _ (hS.1 b o u hs)
      show (if b < w.heap.size then _ else _) = _
      rw [if_pos this]; exact hs
    · simp only at hs
      split at hs
      · rename_i hlt; exact (hb.cell hlt).trans (hS.1 b o u hs)
      · exact hs
    · simp only at hs
      split at hs
      · exact .inl hs
      · exact .inr (by omega)
    · show (if b < w.heap.size then _ else _) = _
      rcases hh.fresh b o u hs with h | h | h
      · have h2 : S b o = some u := h
        have := World.block_lt_of_cell? _ _ (hS.1 b o u h2)
        rw [if_pos this]; exact h2
      · rw [if_neg (by have : w.heap.size ≤ b := h; omega)]; exact hh.st b o u hs
      · cases h
    · show (if b < w.heap.size then _ else _) = _
      rcases hh.own k ob hk b x.1 x.2.1 x.2.2 hl with h | h
      · rw [if_neg (by have : w.heap.size ≤ b := h; omega)]; exact hc
      · cases h
theorem read_row {B : Base} {G : Gh} {w : World} {a : Act} {T : Nat → Nat → Option Value} (hr : R B G σ w a) (hT : ReadT G w σ.objs T) {k : Nat} {xs : List Int} (hk : lk σ.objs k = some (obI xs)) {v : Value} (hv : Rv G (.ref k 0 xs.length) v) : Rv (G0 T) (aInts xs) v := by
  have hsh : σ.shut1 (fun _ => true) (.ref k 0 xs.length) = some (aInts xs) := by
    simp only [AS.shut1, hk, obI]
    have e1 : ((xs.map fun x => [AV.v (.int .i64 x)]).drop 0).take xs.length = xs.map fun x => [AV.v (.int .i64 x)] := by
      rw [List.drop_zero]; exact take_map_len _ _
    rw [e1, if_pos ⟨trivial, Nat.one_pos, by rw [List.length_map]; omega, ids_ints _⟩]
    rfl
  exact shut1_ok hr (T := T) hT.st (fun k ob b x p u _ hk hl hc => hT.ob k ob b x p u hk hl hc) (L := fun _ => none) hv hsh
theorem read_list {B : Base} {G : Gh} {w : World} {a : Act} {T : Nat → Nat → Option Value} (hr : R B G σ w a) (hT : ReadT G w σ.objs T) {k : Nat} {ob : AObj} (hk : lk σ.objs k = some ob) (hz : 0 < ob.sz) {rows : List (List AV)} (hl : rows.length = ob.xs.length) (hz2 : ∀ i, i < rows.length → (rows.getD i []).length = ob.sz)
    (hel : ∀ i j u, i < rows.length → j < ob.sz → Rv G ((ob.xs.getD i []).getD j .any) u → Rv (G0 T) ((rows.getD i []).getD j .any) u) {v : Value} (hv : Rv G (.ref k 0 ob.xs.length) v) : Rv (G0 T) (.sl ob.sz rows) v := by
  cases hv with
  | ref _ _ _ blk base cap sz ad hlc hle hm hb h0 =>
    obtain ⟨blk', ba, ca, g1, g2, g3, g4, g5⟩ := (hr.heap.obj k _ hk).cells hz
    rw [hlc] at g1
    cases g1
    have hcell : ∀ i j, i < ob.xs.length → j < ob.sz → ∃ bb u, blk = some bb ∧ w.cell? ⟨bb, base + (i * ob.sz + j), none⟩ = some u ∧ u.oneCell' = true ∧ Rv G ((ob.xs.getD i []).getD j .any) u := fun i j hi hj => by
      obtain ⟨bb, rfl, _⟩ := hb (by omega)
      obtain ⟨_, u, c1, _, c2, c3⟩ := hr.cellsOf hk hlc (e := i) (j := j) hi hj
      exact ⟨bb, u, rfl, c1, c2, c3⟩
    refine .sl _ _ ad ob.xs.length (cap - 0) (fun i j => (w.cell? ⟨blk.getD 0, base + (i * ob.sz + j), none⟩).getD undef) (by omega) (by omega) (by unfold AMax; omega) (fun e => by have := h0 e; omega) hz2 (fun hp => ?_) (fun i j hi hj => ?_) (fun i j hi hj => ?_)
    · obtain ⟨bb, rfl, rfl⟩ := hb (by omega)
      refine ⟨bb, base + 0 * ob.sz, rfl, fun i j hi hj => ?_⟩
      obtain ⟨b2, u, e2, c1, _⟩ := hcell i j (by omega) hj
      cases e2
      simp only [Option.getD_some, c1]
      rw [show base + 0 * ob.sz + i * ob.sz + j = base + (i * ob.sz + j) by omega]
      exact hT.ob k ob bb (base, cap, ob.sz) _ u hk hlc c1
    · obtain ⟨b2, u, rfl, c1, c2, _⟩ := hcell i j (by omega) hj
      simp only [Option.getD_some, c1]; exact c2
    · obtain ⟨b2, u, rfl, c1, _, c3⟩ := hcell i j (by omega) hj
      simp only [Option.getD_some, c1]
      exact hel i j u hi hj c3
theorem readT_rows {B : Base} {G : Gh} {w : World} {a : Act} {T : Nat → Nat → Option Value} (hr : R B G σ w a) (hT : ReadT G w σ.objs T) {k b : Nat} {t : TypeId} {D : List (List Int)} (hk : lk σ.objs k = some ⟨t, 1, refsI b D⟩) (hfam : ∀ j, j < D.length → lk σ.objs (b + j) = some (obI (D.getD j []))) {v : Value} (hv : Rv G (.ref k 0 D.length) v) : Rv (G0 T) (aRows D) v := by
  have hrl := refsI_len b D
  refine read_list (ob := ⟨t, 1, refsI b D⟩) hr hT hk Nat.one_pos (by rw [List.length_map]; exact hrl.symm) (fun i hi => ?_) (fun i j u hi hj hu => ?_) (by show Rv G (.ref k 0 (refsI b D).length) v; rw [hrl]; exact hv)
  · rw [List.length_map] at hi; rw [getD_map_rows hi]; rfl
  · rw [List.length_map] at hi
    obtain rfl : j = 0 := Nat.lt_one_iff.1 hj
    rw [getD_map_rows hi]
    rw [show (⟨t, 1, refsI b D⟩ : AObj).xs = refsI b D from rfl, refsI_get hi] at hu
    exact read_row hr hT (hfam i hi) hu
theorem readT_th {B : Base} {G : Gh} {w : World} {a : Act} {T : Nat → Nat → Option Value} (hr : R B G σ w a) (hT : ReadT G w σ.objs T) {k b : Nat} {t : TypeId} {N : Int} {D : List (List Int)} (hk : lk σ.objs k = some ⟨t, 1, refsI b D⟩) (hfam : ∀ j, j < D.length → lk σ.objs (b + j) = some (obI (D.getD j []))) {v : Value} (hv : Rv G (.agg [.v (.int .i64 N), .ref k 0 D.length]) v) : Rv (G0 T) (aTh N D) v := by
  obtain ⟨arr, rfl, hl, h1, h2⟩ := hv.agg_inv
  refine Rv.agg' hl h1 fun i hi => ?_
  match i, hi with
  | 0, _ => exact (h2 0 (by simp)).isV (by rfl)
  | 1, _ => exact readT_rows hr hT hk hfam (h2 1 (by simp))
end
end Go.Proofs.Ythdjgcjpolpgdaa
