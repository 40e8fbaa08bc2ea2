/- Sorting clauses in place: the operation on the abstract machine; no condition. -/
import Derived.Test.YtkollnaojpppcaaDst2
namespace Go.Proofs.Ytkollnaojpppcaa
open Go.RowKit Go.Shelf Go.Sort

theorem sortWorld_block {S : Nat → Nat → Option Value} {w : World} {b base q : Nat} {d : Array (RowV S)} {os : Array Obj} {k : Nat} (hk : k < w.heap.size) (hne : k ≠ b) : (sortWorld encR w b base q d os).heap[k]? = w.heap[k]? := by
  show ((putRow encR (Sort.ahead w q) b base d).heap ++ os)[k]? = _
  rw [Array.getElem?_append_left (by simpa [putRow, mapBlock, Sort.ahead] using hk)]
  simp [putRow, mapBlock, Sort.ahead, Array.getElem?_modify, Ne.symm hne]
theorem sortWorld_own {S : Nat → Nat → Option Value} {w : World} {b base q : Nat} {d : Array (RowV S)} {os : Array Obj} {vs : Array Value} {t : TypeId} {fz : Nat × Nat} (h : w.heap[b]? = some (.cells vs t fz)) : (sortWorld encR w b base q d os).heap[b]? = some (.cells (putCells encR base d vs) t fz) := by
  have hlt := (Array.getElem?_eq_some_iff.1 h).1
  show ((putRow encR (Sort.ahead w q) b base d).heap ++ os)[b]? = _
  rw [Array.getElem?_append_left (by simpa [putRow, mapBlock, Sort.ahead] using hlt)]
  simp [putRow, mapBlock, Sort.ahead, Array.getElem?_modify, h, onCells]
theorem run_call_args {P : Program} {o : Oper} {f : FuncId} {args : Array Operand} {ts : Array TypeId} (ho : o.op = .call { callee := .value (.func f), args := args, argTypes := ts }) (hf : fnB P f = true) (a : Act) (w : World) : (execOp a.eval o).run P w = .ok (.enter f (args.map a.eval)) w := by
  unfold execOp
  rw [ho]
  simp [resolve, Act.eval, Deferred.ofValue, invoke, run_callFunc hf]
theorem ok_sortRows {σ : AS} {o : Oper} {x : Operand} {ts : Array TypeId} {k : Nat} {t : TypeId} {L : List (List Int)} (ho : o.op = .call { callee := .value (.func 39), args := #[x, .func 40], argTypes := ts })
    (hx : σ.ev x = some (.ref k 0 L.length)) (hob : lk σ.objs k = some ⟨t, 1, L.map fun c => [aInts c]⟩) (hL : okRows L = true) (hl : ∀ c ∈ L, Lits c) : CoreOk Try.prog o σ (.v (.tuple #[]), [(k, some ⟨t, 1, (sortRows L).map fun c => [aInts c]⟩)]) := by
  intro B G w a hr K Q hK
  have hv := hr.ev hx
  have hlen := okRows_len hL
  unfold Oper.wp
  rw [run_call_args ho (by kernel_rfl)]
  have harg : (#[x, Operand.func 40] : Array Operand).map a.eval = #[a.eval x, .func (.func 40) #[] #[]] := by simp [Act.eval]
  rw [harg]
  generalize a.eval x = v at hv
  cases hv with
  | ref _ _ _ blk base cap sz ad hloc hle hm hb h0 =>
    obtain ⟨blk', base', cap', g1, g2, g3, g4, g5⟩ := hr.heap.obj k _ hob
    rw [hloc] at g1
    cases g1
    by_cases hne : L.length = 0
    · obtain rfl : L = [] := List.eq_nil_of_length_eq_zero hne
      have hS := AnyF.slices_SortFunc_none (P := Try.prog) (ρ := sortR_ren) { sortR with } ad (cap - 0) (.func (.func 40) #[] #[]) w
      change Calls Try.prog 39 _ _ _ at hS
      refine Calls.mono hS fun e w' ⟨he, hw⟩ => ?_
      subst he; subst hw
      refine hK G w' (.tuple #[]) (Gh.le.refl G) ?_ (.v _)
      refine StEq.R (σ := σ) (τ := σ.upd [(k, some (⟨t, 1, (sortRows []).map fun c => [aInts c]⟩ : AObj))]) ⟨rfl, fun _ => rfl, fun q => ?_, fun q => ?_⟩ hr
      · simp only [AS.upd, updO, lk_st]
        split
        · rename_i e; subst e; rw [hob]; simp [sortRows]
        · rfl
      · rw [show (σ.upd [(k, some (⟨t, 1, (sortRows []).map fun c => [aInts c]⟩ : AObj))]).ids = updI σ.ids [(k, some ⟨t, 1, (sortRows []).map fun c => [aInts c]⟩)] from rfl, updI_mem]
        constructor
        · exact .inr
        · rintro (h | h)
          · simp at h; subst h; exact hr.ids _ (by rw [hloc]; simp)
          · exact h
    · obtain ⟨b, rfl, rfl⟩ := hb (by omega)
      obtain ⟨vs, g6, g7, g8⟩ := g5
      have hget : ∀ i, i < L.length → (L.map fun c => [aInts c]).getD i [] = [aInts (L.getD i [])] := fun i hi => getD_map_rows hi
      have hrow : ∀ i, i < L.length → (vs.getD (base + i) undef).oneCell' = true ∧ Rv (G0 G.S) (aInts (L.getD i [])) (vs.getD (base + i) undef) := fun i hi => by
        obtain ⟨h1, h2⟩ := g8 i 0 (by simpa using hi) (by show 0 < 1; omega)
        have e1 : base + (i * (⟨t, 1, L.map fun c => [aInts c]⟩ : AObj).sz + 0) = base + i := by show base + (i * 1 + 0) = _; omega
        rw [e1] at h1 h2
        rw [show (⟨t, 1, L.map fun c => [aInts c]⟩ : AObj).xs.getD i [] = [aInts (L.getD i [])] from hget i hi] at h2
        exact ⟨h1, Rv.pure (G := G) (G' := G0 G.S) (fun _ _ _ h => h) h2 (ids_ints _)⟩
      have hblk := (Array.getElem?_eq_some_iff.1 g6).1
      let d : Array (RowV G.S) := (List.ofFn fun i : Fin L.length => (⟨(vs.getD (base + i.1) undef, L.getD i.1 []), (hrow i.1 i.2).2, (hrow i.1 i.2).1, okRows_at hL i.1, by
        have : L.getD i.1 [] = L[i.1] := by simp [i.2]
        rw [this]; exact hl _ (List.getElem_mem _)⟩ : RowV G.S)).toArray
      have hdsz : d.size = L.length := by simp [d]
      have hdget : ∀ j, j < d.size → (d[j]!).1 = (vs.getD (base + j) undef, L.getD j []) := fun j hj => by
        have hj2 : j < L.length := by omega
        rw [getElem!_pos d j hj]; simp [d, List.getD, hj2]
      have hdL : d.toList.map (fun x => x.1.2) = L := by
        apply List.ext_getElem
        · simp [d]
        · intro i h1 h2
          simp [d, List.getD, h2]
      have hH : Holds encR w b (base + 0 * 1) d := fun j hj => by
        have hj' : base + j < vs.size := by
          have : j < cap := by omega
          have : base + cap * 1 ≤ vs.size := g7
          omega
        refine ⟨?_, by simp [World.frozen?, g6]⟩
        show w.cell? ⟨b, base + 0 * 1 + j, none⟩ = some (d[j]!).1.1
        rw [hdget j hj, show base + 0 * 1 + j = base + j by omega]
        simp [World.cell?, g6, hj']
      have hS := sortRows_c hr.heap.st (cap := cap - 0) (hr.heap.sep k _ hob b _ hloc) hblk d hH (by omega)
      rw [hdsz] at hS
      refine Calls.mono hS fun e w' ⟨he, d', q, os, hs1, hs2, hw⟩ => ?_
      subst he
      rw [hdL] at hs2
      refine hK G w' (.tuple #[]) (Gh.le.refl G) ?_ (.v _)
      have hown : w'.heap[b]? = some (.cells (putCells encR (base + 0 * 1) d' vs) t (0, 0)) := by rw [hw]; exact sortWorld_own g6
      have hsl : (sortRows L).length = L.length := (sortRows_perm L).length_eq
      refine ⟨hr.n, hr.slot, hr.defers, ?_, fun q hq => ?_⟩
      · refine hr.heap.step (by rw [hw]; rfl) (by rw [hw]; rfl) (by rw [hw]; rfl) (by rw [hw]; show _ ≤ ((putRow encR (Sort.ahead w q) b (base + 0 * 1) d').heap ++ os).size; simp [putRow, mapBlock, Sort.ahead]) (Gh.le.refl G) rfl b k (fun b' hne' hlt => by rw [hw]; exact sortWorld_block hlt hne') (.inr ⟨k, _, _, hob, hloc⟩) (fun q' ob' hq' => ?_)
        simp only [AS.upd, updO, lk_st] at hq'
        split at hq'
        · rename_i e; subst e; cases hq'
          refine .inl ⟨rfl, ⟨some b, base, cap, hloc, by simp [hsl]; omega, g3, fun i hi => ?_, _, hown, ?_, fun i j hi hj => ?_⟩, fun b' x hl' => ?_⟩
          · simp only [List.length_map] at hi
            simp [List.getD, hi]
          · simpa [putCells] using g7
          · simp only [List.length_map] at hi
            have hj0 : j = 0 := by
              have : j < 1 := hj
              omega
            subst hj0
            have hi' : i < d'.size := by omega
            have e1 : base + (i * (⟨t, 1, (sortRows L).map fun c => [aInts c]⟩ : AObj).sz + 0) = base + i := by show base + (i * 1 + 0) = _; omega
            rw [e1]
            have hvi : base + i < vs.size := by
              have : base + cap * 1 ≤ vs.size := g7
              omega
            have e2 : (putCells encR (base + 0 * 1) d' vs).getD (base + i) undef = (d'[i]!).1.1 := by
              simp only [putCells, Nat.zero_mul, Nat.add_zero, Array.getD_eq_getD_getElem?, Array.getElem?_mapIdx]
              rw [Array.getElem?_eq_getElem hvi]
              simp only [Option.map_some, Option.getD_some]
              rw [if_pos (by omega), show base + i - base = i by omega]
              rfl
            rw [e2, getElem!_pos d' i hi']
            refine ⟨d'[i].2.2.1, ?_⟩
            have e3 : ((⟨t, 1, (sortRows L).map fun c => [aInts c]⟩ : AObj).xs.getD i []).getD 0 .any = aInts (d'[i].1.2) := by
              show (((sortRows L).map fun c => [aInts c]).getD i []).getD 0 .any = _
              rw [getD_map_rows hi, ← hs2]
              simp [List.getD, hi']
            rw [e3]
            exact Rv.mono (G := G0 G.S) (G' := G) ⟨fun _ _ _ h => h, fun _ _ h => by cases h⟩ d'[i].2.1
          · rw [hloc] at hl'; cases hl'; rfl
        · rename_i e
          refine .inr ⟨Ne.symm e, hq', fun b' x hl' e2 => ?_⟩
          subst e2
          exact e (hr.heap.inj _ _ _ _ hob hq' _ _ _ hloc hl')
      · rw [show (σ.upd [(k, some (⟨t, 1, (sortRows L).map fun c => [aInts c]⟩ : AObj))]).ids = updI σ.ids [(k, some ⟨t, 1, (sortRows L).map fun c => [aInts c]⟩)] from rfl, updI_mem]
        exact .inr (hr.ids q hq)
end Go.Proofs.Ytkollnaojpppcaa
