/- Functions that only read, called with rows that are objects; no condition. -/
import Derived.Test.YthdjgcjpolpgdaaOb2
namespace Go.Proofs.Ythdjgcjpolpgdaa
set_option linter.unusedVariables false
set_option linter.unusedSimpArgs false
set_option linter.unusedSectionVars false
open Go.RowKit
set_option maxRecDepth 100000
section
variable {P : Program} {σ : AS} {o : Oper}
theorem ok_call_all {f : FuncId} {avs bvs : List AV} {res : AV} (hen : Enters P o σ f avs) (hl : bvs.length = avs.length) (hrd : ∀ B G w a, R B G σ w a → ∀ i v, i < avs.length → Rv G (avs.getD i .any) v → Rv (G0 (fun b p => w.cell? ⟨b, p, none⟩)) (bvs.getD i .any) v) (hF : FnPure P f bvs res) (hs : res.scalar = true) : CoreOk P o σ (res, []) := by
  intro B G w a hr K Q hK
  obtain ⟨argv, hop, h1, h2⟩ := hen B G w a hr
  unfold Oper.wp
  rw [hop]
  have hc := hF (fun b p => w.cell? ⟨b, p, none⟩) w argv hr.heap.allOk (by omega) (fun i hi => hrd B G w a hr i _ (by omega) (h2 i (by omega)))
  refine Calls.mono hc fun e w' hl => ?_
  obtain ⟨v, S', rfl, hb, g1, g2, g3, g4⟩ := hl
  obtain ⟨r1, r2⟩ := hr.after (S' := G.S) hb (fun _ _ _ h => h) (fun b p u h => by
    have := hr.heap.st b p u h
    exact (hb.cell (World.block_lt_of_cell? _ _ this)).trans this) (fun _ _ _ h => .inl h)
  exact hK _ _ _ r1 r2 (g4.scalar hs)
theorem read_rows {B : Base} {G : Gh} {w : World} {a : Act} (hr : R B G σ w a) {k b : Nat} {t : TypeId} {D : List (List Int)} (hk : lk σ.objs k = some ⟨t, 1, refsI b D⟩) (hfam : ∀ j, j < D.length → lk σ.objs (b + j) = some (obI (D.getD j []))) {v : Value} (hv : Rv G (.ref k 0 D.length) v) : Rv (G0 (fun b p => w.cell? ⟨b, p, none⟩)) (aRows D) v := by
  cases hv with
  | ref _ _ _ blk base cap sz ad hl hle hm hb h0 =>
    obtain ⟨blk', ba, ca, g1, g2, g3, g4, g5⟩ := (hr.heap.obj k _ hk).cells Nat.one_pos
    rw [hl] at g1
    cases g1
    have hrl := refsI_len b D
    have hrow : ∀ i u, i < D.length → Rv G (.ref (b + i) 0 (D.getD i []).length) u → Rv (G0 (fun b p => w.cell? ⟨b, p, none⟩)) (aInts (D.getD i [])) u := fun i u hi hu => by
      have hsh : σ.shut1 (fun _ => true) (.ref (b + i) 0 (D.getD i []).length) = some (aInts (D.getD i [])) := by
        simp only [AS.shut1, hfam i hi, obI]
        have e1 : (((D.getD i []).map fun x => [AV.v (.int .i64 x)]).drop 0).take (D.getD i []).length = (D.getD i []).map fun x => [AV.v (.int .i64 x)] := by
          rw [List.drop_zero]; exact take_map_len _ _
        rw [e1, if_pos ⟨trivial, Nat.one_pos, by rw [List.length_map]; omega, ids_ints _⟩]
        rfl
      exact shut1_ok hr (T := fun b p => w.cell? ⟨b, p, none⟩) hr.heap.st (fun _ _ _ _ _ _ _ _ _ h => h) (L := fun _ => none) hu hsh
    have hget : ∀ i, i < D.length → (D.map fun xs => [aInts xs]).getD i [] = [aInts (D.getD i [])] := fun i hi => getD_map_rows hi
    have hcell : ∀ i, i < D.length → ∃ bb u, blk = some bb ∧ w.cell? ⟨bb, base + i, none⟩ = some u ∧ u.oneCell' = true ∧ Rv G (.ref (b + i) 0 (D.getD i []).length) u := fun i hi => by
      obtain ⟨bb, rfl, _⟩ := hb (by omega)
      obtain ⟨_, u, c1, _, c2, c3⟩ := hr.cellsOf hk hl (e := i) (j := 0) (by rw [hrl]; exact hi) Nat.one_pos
      rw [show base + (i * (⟨t, 1, refsI b D⟩ : AObj).sz + 0) = base + i by show base + (i * 1 + 0) = _; omega] at c1
      rw [show ((⟨t, 1, refsI b D⟩ : AObj).xs.getD i []).getD 0 .any = .ref (b + i) 0 (D.getD i []).length by rw [show (⟨t, 1, refsI b D⟩ : AObj).xs = refsI b D from rfl, refsI_get hi]; rfl] at c3
      exact ⟨bb, u, rfl, c1, c2, c3⟩
    refine .sl 1 _ ad D.length (cap - 0) (fun i j => (w.cell? ⟨blk.getD 0, base + i, none⟩).getD undef) (by simp) (by omega) (by unfold AMax; omega) (fun e => by have := h0 e; omega) (fun i hi => ?_) (fun hp => ?_) (fun i j hi hj => ?_) (fun i j hi hj => ?_)
    · rw [List.length_map] at hi; rw [hget i hi]; rfl
    · rw [List.length_map] at hp
      obtain ⟨bb, rfl, rfl⟩ := hb (by omega)
      refine ⟨bb, base + 0 * 1, rfl, fun i j hi hj => ?_⟩
      rw [List.length_map] at hi
      obtain ⟨b2, u, e2, c1, _⟩ := hcell i hi
      cases e2
      obtain rfl : j = 0 := by omega
      simp only [Option.getD_some, c1]
      rw [show base + 0 * 1 + i * 1 + 0 = base + i by omega]; exact c1
    · rw [List.length_map] at hi
      obtain ⟨b2, u, rfl, c1, c2, _⟩ := hcell i hi
      simp only [Option.getD_some, c1]; exact c2
    · rw [List.length_map] at hi
      obtain ⟨b2, u, rfl, c1, _, c3⟩ := hcell i hi
      obtain rfl : j = 0 := by omega
      rw [hget i hi]
      simp only [Option.getD_some, c1]
      exact hrow i u hi c3
theorem read_th {B : Base} {G : Gh} {w : World} {a : Act} (hr : R B G σ w a) {k b : Nat} {t : TypeId} {N : Int} {D : List (List Int)} (hk : lk σ.objs k = some ⟨t, 1, refsI b D⟩) (hfam : ∀ j, j < D.length → lk σ.objs (b + j) = some (obI (D.getD j []))) {v : Value} (hv : Rv G (.agg [.v (.int .i64 N), .ref k 0 D.length]) v) : Rv (G0 (fun b p => w.cell? ⟨b, p, none⟩)) (aTh N D) v := by
  obtain ⟨arr, rfl, hl, h1, h2⟩ := hv.agg_inv
  refine Rv.agg' hl h1 fun i hi => ?_
  match i, hi with
  | 0, _ => exact (h2 0 (by simp)).isV (by rfl)
  | 1, _ => exact read_rows hr hk hfam (h2 1 (by simp))
end
end Go.Proofs.Ythdjgcjpolpgdaa
