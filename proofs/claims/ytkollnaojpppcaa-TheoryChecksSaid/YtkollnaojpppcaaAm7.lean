/- An abstract machine for the text, part seven: structs, arrays and slices written out; plain lemmas over any program; no condition. -/
import Derived.Test.YtkollnaojpppcaaAm6
namespace Go.Proofs.Ytkollnaojpppcaa
open Go.RowKit

/-- Parts put into cells. -/
def fillA (place : Nat → Option (Nat × Nat)) (cells : List AV) : List (Nat × AV) → Option (List AV)
  | [] => some cells
  | (i, a) :: rest =>
    match place i with
    | none => none
    | some (off, size) => if a.flat = true ∧ a.cells.length = size ∧ off + size ≤ cells.length then fillA place (spl cells off a.cells) rest else none

theorem fold_size : ∀ (vs : List Value) (k off : Nat) (cells : Array Value), ((vs.zipIdx k).foldl (fun cs (p : Value × Nat) => cs.setIfInBounds (off + p.2) p.1) cells).size = cells.size
  | [], _, _, _ => rfl
  | v :: vs, k, off, cells => by simp only [List.zipIdx_cons, List.foldl_cons]; rw [fold_size vs]; simp
theorem fold_get : ∀ (vs : List Value) (k off : Nat) (cells : Array Value) (i : Nat), off + k + vs.length ≤ cells.size →
    ((vs.zipIdx k).foldl (fun cs (p : Value × Nat) => cs.setIfInBounds (off + p.2) p.1) cells).getD i undef = if off + k ≤ i ∧ i < off + k + vs.length then vs.getD (i - (off + k)) undef else cells.getD i undef
  | [], k, off, cells, i, _ => by simp only [List.zipIdx_nil, List.foldl_nil, List.length_nil]; rw [if_neg (by omega)]
  | v :: vs, k, off, cells, i, h => by
    simp only [List.length_cons] at h
    simp only [List.zipIdx_cons, List.foldl_cons, List.length_cons]
    rw [fold_get vs (k + 1) off _ i (by simp; omega)]
    by_cases h1 : i = off + k
    · subst h1
      rw [if_neg (by omega), if_pos (by omega)]
      simp [Array.getD_eq_getD_getElem?, show off + k < cells.size by omega]
    · by_cases h2 : off + k ≤ i ∧ i < off + k + (vs.length + 1)
      · rw [if_pos (by omega), if_pos h2]
        have : i - (off + k) = (i - (off + (k + 1))) + 1 := by omega
        rw [this]; simp
      · rw [if_neg (by omega), if_neg h2]
        have hne : off + k ≠ i := fun e => h1 e.symm
        simp [Array.getD_eq_getD_getElem?, Array.getElem?_setIfInBounds, hne]

/-- Cells, one by one. -/
structure CellsR (G : Gh) (cs : List AV) (us : Array Value) : Prop where
  len : us.size = cs.length
  one : ∀ i, i < cs.length → (us.getD i undef).oneCell' = true
  rv : ∀ i, i < cs.length → Rv G (cs.getD i .any) (us.getD i undef)

theorem fill_ok {G : Gh} (place : Nat → Option (Nat × Nat)) : ∀ (parts : List (Nat × AV)) (vals : List (Nat × Value)) (cells out : List AV) (us : Array Value), CellsR G cells us → vals.length = parts.length →
    (∀ i, i < parts.length → (vals.getD i (0, undef)).1 = (parts.getD i (0, .any)).1 ∧ Rv G (parts.getD i (0, .any)).2 (vals.getD i (0, undef)).2) → fillA place cells parts = some out → ∃ us', Instr.fill place us vals = some us' ∧ CellsR G out us'
  | [], vals, cells, out, us, hc, hl, _, h => by
    have : vals = [] := List.eq_nil_of_length_eq_zero (by simpa using hl)
    subst this
    simp only [fillA, Option.some.injEq] at h
    subst h
    exact ⟨us, rfl, hc⟩
  | (i, a) :: rest, [], _, _, _, _, hl, _, _ => by simp at hl
  | (i, a) :: rest, (i', v) :: vrest, cells, out, us, hc, hl, hp, h => by
    have h0 := hp 0 (by simp)
    simp only [List.getD_cons_zero] at h0
    obtain ⟨e0, hrv⟩ := h0
    subst e0
    simp only [fillA] at h
    split at h
    · cases h
    · rename_i off size hpl
      split at h
      · rename_i hcond
        obtain ⟨hf, hsz, hfit⟩ := hcond
        obtain ⟨g1, g2, g3⟩ := hrv.stored hf
        have hstep : CellsR G (spl cells off a.cells) (v.cells.zipIdx.foldl (fun cs (p : Value × Nat) => cs.setIfInBounds (off + p.2) p.1) us) := by
          have e : v.cells.zipIdx.foldl (fun cs (p : Value × Nat) => cs.setIfInBounds (off + p.2) p.1) us = (v.cells.toList.zipIdx 0).foldl (fun cs (p : Value × Nat) => cs.setIfInBounds (off + p.2) p.1) us := by
            rw [← Array.foldl_toList, Array.toList_zipIdx]
          rw [e]
          have hlen : v.cells.toList.length = a.cells.length := by simpa using g1
          have hus := hc.len
          have key : ∀ q, ((v.cells.toList.zipIdx 0).foldl (fun cs (p : Value × Nat) => cs.setIfInBounds (off + p.2) p.1) us).getD q undef = if off ≤ q ∧ q < off + a.cells.length then v.cells.toList.getD (q - off) undef else us.getD q undef := fun q => by
            rw [fold_get _ 0 off us q (by omega), hlen]; rfl
          refine ⟨by rw [fold_size, spl_len (by omega)]; exact hus, fun q hq => ?_, fun q hq => ?_⟩
          · rw [spl_len (by omega)] at hq
            rw [key]
            split
            · rename_i hqq
              have : q - off < v.cells.size := by omega
              exact g2 _ (by simp [List.getD, this])
            · exact hc.one q hq
          · rw [spl_len (by omega)] at hq
            rw [key, spl_getD (l := cells) (j := off) (cs := a.cells) (by omega)]
            split
            · rename_i hqq
              have := g3 (q - off) (by omega)
              simpa [List.getD, Array.getD_eq_getD_getElem?] using this
            · exact hc.rv q hq
        obtain ⟨us', h5, h6⟩ := fill_ok place rest vrest _ out _ hstep (by simpa using hl) (fun j hj => by
          have := hp (j + 1) (by simpa using hj)
          simpa using this) h
        refine ⟨us', ?_, h6⟩
        have hus := hc.len
        have hc1 : ¬ (v.cells.size ≠ size) := by omega
        have hc2 : ¬ (off + v.cells.size > us.size) := by omega
        simp only [Instr.fill, hpl]
        rw [if_neg (by simp only [Bool.or_eq_true, decide_eq_true_eq]; omega)]
        exact h5
      · cases h

/-- Operands as parts. -/
def AS.parts (σ : AS) : List (Nat × Operand) → Option (List (Nat × AV))
  | [] => some []
  | (i, x) :: r => match σ.ev x, σ.parts r with
    | some a, some l => some ((i, a) :: l)
    | _, _ => none
theorem R.parts {B : Base} {G : Gh} {σ : AS} {w : World} {a : Act} (hr : R B G σ w a) : ∀ {ps : List (Nat × Operand)} {l : List (Nat × AV)}, σ.parts ps = some l →
    (ps.map fun p => (p.1, a.eval p.2)).length = l.length ∧ ∀ i, i < l.length → ((ps.map fun p => (p.1, a.eval p.2)).getD i (0, undef)).1 = (l.getD i (0, .any)).1 ∧ Rv G (l.getD i (0, .any)).2 ((ps.map fun p => (p.1, a.eval p.2)).getD i (0, undef)).2
  | [], l, h => by simp only [AS.parts, Option.some.injEq] at h; subst h; exact ⟨rfl, fun i hi => by simp at hi⟩
  | (i, x) :: r, l, h => by
    simp only [AS.parts] at h
    split at h
    · rename_i av l' hx hl
      cases h
      obtain ⟨h1, h2⟩ := hr.parts hl
      refine ⟨by simpa using h1, fun j hj => ?_⟩
      cases j with
      | zero => simpa using hr.ev hx
      | succ j => simpa using h2 j (by simpa using hj)
    · cases h

section ops
variable {P : Program} {σ : AS} {o : Oper}

theorem run_places {P : Program} {w : World} : ∀ (fields : List Field) (ps : List (Nat × Nat)), fields.length = ps.length → (∀ (i : Nat) (f : Field), fields[i]? = some f → ∃ s, ps[i]? = some (f.offset, s) ∧ (sizeOf f.type).run P w = .ok s w) →
    (fields.mapM fun f => (do pure (f.offset, ← sizeOf f.type) : Sem (Nat × Nat))).run P w = .ok ps w
  | [], ps, hl, _ => by
    have : ps = [] := List.eq_nil_of_length_eq_zero (by simpa using hl.symm)
    subst this; rfl
  | f :: fs, [], hl, _ => by simp at hl
  | f :: fs, p :: ps, hl, h => by
    obtain ⟨s, h1, h2⟩ := h 0 f (by simp)
    have ih := run_places (P := P) (w := w) fs ps (by simpa using hl) (fun i g hg => h (i + 1) g (by simpa using hg))
    rw [List.mapM_cons]
    simp only [List.getElem?_cons_zero, Option.some.injEq] at h1
    subst h1
    simp only [Sem.run_bind, h2, Result.andThen_ok, Sem.run_pure, ih]

theorem zero_cells {G : Gh} {z : Array Value} {l : List Value} (h : z.toList = l) (h1 : ∀ u ∈ l, u.oneCell' = true) : CellsR G (l.map .v) z := by
  subst h
  refine ⟨by simp, fun i hi => ?_, fun i hi => ?_⟩
  · have hi' : i < z.size := by simpa using hi
    exact h1 _ (by simp [Array.getD, hi'])
  · have hi' : i < z.size := by simpa using hi
    have : ((z.toList.map AV.v).getD i .any) = .v (z.getD i undef) := by simp [List.getD, hi', Array.getD_eq_getD_getElem?]
    rw [this]; exact .v _

theorem ok_build_st {t : TypeId} {ti : TI} {fs : List (Nat × Nat × Bool)} {parts : Array (Nat × Operand)} {l : List (Nat × AV)} {out : List AV} (hT : TIok P t ti) (hk : ti.kind = .strct fs) (ho : o.op = .build t parts) (hp : σ.parts parts.toList = some l)
    (hf : fillA (fun i => (fs[i]?).map fun x : Nat × Nat × Bool => (x.1, x.2.1)) (ti.zero.map .v) l = some out) : CoreOk P o σ (.agg out, []) :=
  CoreOk.pure fun B G w a hr => by
    obtain ⟨z, hz1, hz2⟩ := hT.run_zero (w := w)
    obtain ⟨_, _, d, _, _, h3, _, _, _, hkk⟩ := hT.i
    rw [hk] at hkk
    obtain ⟨fields, rfl, hfl, hflds⟩ := hkk
    obtain ⟨p1, p2⟩ := hr.parts hp
    obtain ⟨us', h5, h6⟩ := fill_ok (G := G) _ l _ _ out z.cells (zero_cells hz2 hT.one) p1 p2 hf
    have hrun := run_places (P := P) (w := w) fields.toList (fs.map fun x : Nat × Nat × Bool => (x.1, x.2.1)) (by simpa using hfl) (fun i f hi => by
      have hi' : i < fs.length := by rw [← hfl]; simpa using (List.getElem?_eq_some_iff.1 hi).1
      obtain ⟨fl, g1, g2, ⟨j, g3, g4⟩, _⟩ := hflds i fs[i].1 fs[i].2.1 fs[i].2.2 (by simp [hi'])
      have : f = fl := by
        have : fields[i]? = some f := by simpa using hi
        rw [this] at g1; exact Option.some.inj g1
      subst this
      exact ⟨fs[i].2.1, by simp [hi', g2], size_of_info g3 g4⟩)
    refine ⟨.agg us', ?_, Rv.agg' h6.len (fun u hu => ?_) h6.rv⟩
    · unfold execOp
      rw [ho]
      have hplace : (fun i : Nat => (fs.map fun x : Nat × Nat × Bool => (x.1, x.2.1)).toArray[i]?) = (fun i : Nat => (fs[i]?).map fun x : Nat × Nat × Bool => (x.1, x.2.1)) := by funext i; simp
      have hmapM : (fields.mapM fun f => (do pure (f.offset, ← sizeOf f.type) : Sem (Nat × Nat))).run P w = .ok (fs.map fun x : Nat × Nat × Bool => (x.1, x.2.1)).toArray w := by
        rw [Array.mapM_eq_mapM_toList]
        simp only [Sem.run_map, hrun, Result.andThen_ok]
      have hpa : (parts.map fun (i, x) => (i, a.eval x)).toList = parts.toList.map fun p => (p.1, a.eval p.2) := by simp
      simp only [Instr.build, Sem.run_bind, hz1, Result.andThen_ok, run_underlying h3, hmapM, hpa, hplace, h5, Sem.run_pure]
    · obtain ⟨i, hi, rfl⟩ := Array.mem_iff_getElem.1 hu
      have := h6.one i (by rw [← h6.len]; exact hi)
      simpa [Array.getD, hi] using this
theorem ok_build_arr {t : TypeId} {ti : TI} {len esz : Nat} {g : Bool} {parts : Array (Nat × Operand)} {l : List (Nat × AV)} {out : List AV} (hT : TIok P t ti) (hk : ti.kind = .arr len esz g) (ho : o.op = .build t parts) (hp : σ.parts parts.toList = some l)
    (hf : fillA (fun i => some (i * esz, esz)) (ti.zero.map .v) l = some out) : CoreOk P o σ (.agg out, []) :=
  CoreOk.pure fun B G w a hr => by
    obtain ⟨z, hz1, hz2⟩ := hT.run_zero (w := w)
    obtain ⟨_, _, d, _, _, h3, _, _, _, hkk⟩ := hT.i
    rw [hk] at hkk
    obtain ⟨el, rfl, ⟨jj, hj1, hj2⟩, _⟩ := hkk
    have hsz' : ∀ w, (sizeOf el).run P w = .ok esz w := fun w => size_of_info hj1 hj2
    obtain ⟨p1, p2⟩ := hr.parts hp
    obtain ⟨us', h5, h6⟩ := fill_ok (G := G) _ l _ _ out z.cells (zero_cells hz2 hT.one) p1 p2 hf
    refine ⟨.agg us', ?_, Rv.agg' h6.len (fun u hu => ?_) h6.rv⟩
    · unfold execOp
      rw [ho]
      have hpa : (parts.map fun (i, x) => (i, a.eval x)).toList = parts.toList.map fun p => (p.1, a.eval p.2) := by simp
      simp only [Instr.build, Sem.run_bind, hz1, Result.andThen_ok, run_underlying h3, hsz', hpa, h5, Sem.run_pure]
    · obtain ⟨i, hi, rfl⟩ := Array.mem_iff_getElem.1 hu
      have := h6.one i (by rw [← h6.len]; exact hi)
      simpa [Array.getD, hi] using this

/-- Rows out of cells. -/
def chunk {α : Type} (esz n : Nat) (cells : List α) : List (List α) := (List.range n).map fun i => (cells.drop (i * esz)).take esz
theorem chunk_getD {α : Type} {esz n : Nat} {cells : List α} {i : Nat} (hi : i < n) : (chunk esz n cells).getD i [] = (cells.drop (i * esz)).take esz := by simp [chunk, List.getD, hi]
theorem chunk_len {α : Type} {esz n : Nat} {cells : List α} : (chunk esz n cells).length = n := by simp [chunk]
theorem chunk_row {esz n : Nat} {cells : List AV} (h : n * esz ≤ cells.length) {i : Nat} (hi : i < n) : ((chunk esz n cells).getD i []).length = esz := by
  rw [chunk_getD hi]
  have : (i + 1) * esz ≤ n * esz := Nat.mul_le_mul_right _ hi
  rw [Nat.add_mul] at this
  simp; omega
theorem chunk_cell {esz n : Nat} {cells : List AV} {i j : Nat} (hi : i < n) (hj : j < esz) : ((chunk esz n cells).getD i []).getD j .any = cells.getD (i * esz + j) .any := by
  rw [chunk_getD hi]
  simp [List.getD, List.getElem?_take, hj, List.getElem?_drop]

/-- Zero cells of so many elements. -/
def zeros (ez : List Value) (n : Nat) : List AV := (List.range n).map fun i => .v (ez.getD (i % ez.length) undef)
theorem zeros_cells {G : Gh} {z : Array Value} {ez : List Value} {n : Nat} (h : z.toList = ez) (h1 : ∀ u ∈ ez, u.oneCell' = true) (h0 : 0 < n → 0 < ez.length) : CellsR G (zeros ez n) ((Array.range n).map (z[· % z.size]!)) := by
  subst h
  refine ⟨by simp [zeros], fun i hi => ?_, fun i hi => ?_⟩
  · have hi' : i < n := by simpa [zeros] using hi
    have hz : 0 < z.size := by simpa using h0 (by omega)
    have hm : i % z.size < z.size := Nat.mod_lt _ hz
    have e : ((Array.range n).map (z[· % z.size]!)).getD i undef = z[i % z.size] := by simp [Array.getD_eq_getD_getElem?, hi', hm]
    rw [e]; exact h1 _ (by simp)
  · have hi' : i < n := by simpa [zeros] using hi
    have hz : 0 < z.size := by simpa using h0 (by omega)
    have hm : i % z.size < z.size := Nat.mod_lt _ hz
    have e : ((Array.range n).map (z[· % z.size]!)).getD i undef = z[i % z.size] := by simp [Array.getD_eq_getD_getElem?, hi', hm]
    have e2 : (zeros z.toList n).getD i .any = .v z[i % z.size] := by simp [zeros, List.getD, hi', hm]
    rw [e, e2]; exact .v _
theorem ok_buildSlice {t : TypeId} {ti : TI} {e : TypeId} {esz eb n id : Nat} {ez : List Value} {parts : Array (Nat × Operand)} {l : List (Nat × AV)} {out : List AV} (hT : TIok P t ti) (hk : ti.kind = .slice e esz eb ez) (ho : o.op = .buildSlice t n parts) (hp : σ.parts parts.toList = some l)
    (hf : fillA (fun i => some (i * esz, esz)) (zeros ez (n * esz)) l = some out) (hsm : n * esz ≤ 16777216) (hes : 0 < esz) (hid : id ∉ σ.ids) : CoreOk P o σ (.ref id 0 n, [(id, some ⟨e, esz, chunk esz n out⟩)]) := by
  intro B G w a hr K Q hK
  obtain ⟨hezl, hezo⟩ := hT.ezero _ _ _ _ hk
  obtain ⟨_, _, d, _, _, h3, _, _, _, hkk⟩ := hT.i
  rw [hk] at hkk
  obtain ⟨rfl, j, y, hj1, hj2, hj3, hj4, hj5⟩ := hkk
  have hsz' : ∀ w, (sizeOf e).run P w = .ok esz w := fun w => size_of_info hj1 hj2
  obtain ⟨p1, p2⟩ := hr.parts hp
  obtain ⟨us', h5, h6⟩ := fill_ok (G := G) _ l _ _ out _ (zeros_cells hj5 hezo (by omega)) p1 p2 hf
  have hol : out.length = n * esz := by
    have hfl : ∀ (l : List (Nat × AV)) (c out : List AV), fillA (fun i => some (i * esz, esz)) c l = some out → out.length = c.length := by
      intro l
      induction l with
      | nil => intro c out h; simp only [fillA, Option.some.injEq] at h; rw [h]
      | cons p r ih =>
        obtain ⟨i, av⟩ := p
        intro c out h
        simp only [fillA] at h
        split at h
        · rename_i hc
          rw [ih _ _ h, spl_len (by omega)]
        · cases h
    rw [hfl _ _ _ hf]; simp [zeros]
  have hlen := h6.len
  obtain ⟨hle, hr'⟩ := hr.new (t := e) (sz := esz) (cap := n) (xs := chunk esz n out) (vs := us') hid (by rw [chunk_len]; exact Nat.le_refl _) (by
      have : n * 1 ≤ n * esz := Nat.mul_le_mul_left _ hes
      omega) (by omega) (fun i hi => chunk_row (by omega) (by rw [chunk_len] at hi; exact hi)) (fun i j hi hj => by
      rw [chunk_len] at hi
      have : (i + 1) * esz ≤ n * esz := Nat.mul_le_mul_right _ hi
      rw [Nat.add_mul] at this
      rw [chunk_cell hi hj]
      exact ⟨h6.one _ (by omega), h6.rv _ (by omega)⟩) (w1 := w) ⟨rfl, rfl, rfl, rfl⟩
  unfold Oper.wp
  have hrun : (execOp a.eval o).run P w = .ok (.value (.slice (some ⟨w.heap.size, 0, none⟩) n n)) (w.alloc (.cells us' e)) := by
    unfold execOp
    rw [ho]
    have hpa : (parts.map fun (i, x) => (i, a.eval x)).toList = parts.toList.map fun p => (p.1, a.eval p.2) := by simp
    have hns : ¬ n * esz > 2 ^ 24 := by omega
    have hzz : (if n * esz = 0 then Pure.pure #[] else do Pure.pure (← zeroValue e).cells : Sem (Array Value)).run P w = .ok (if n * esz = 0 then #[] else y.cells) w := by
      split
      · rfl
      · simp [zeroValue, typeInfo, hj1, hj4]
    by_cases hn0 : n * esz = 0
    · rw [hn0] at h5 hzz
      have h5' : Instr.fill (fun i => some (i * esz, esz)) #[] (List.map (fun x => (x.fst, a.eval x.snd)) parts.toList) = some us' := by simpa [Array.range_zero'] using h5
      simp only [Instr.buildSlice, Sem.run_bind, run_underlying h3, Result.andThen_ok, hsz', hn0, hpa]
      simp [h5', newRow, alloc_eq, Array.range_zero']
    · simp only [Instr.buildSlice, Sem.run_bind, run_underlying h3, Result.andThen_ok, hsz', hpa, if_neg hns, Sem.run_pure, hn0, if_false, zeroValue, typeInfo, hj1, hj4, run_program, h5, newRow, run_newObj, alloc_eq]
  rw [hrun]
  refine hK _ _ _ hle hr' ?_
  have := Rv.ref (G := G.add id (some w.heap.size, 0, n, esz)) id 0 n (some w.heap.size) 0 n esz (some ⟨w.heap.size, 0, none⟩) Gh.add_self (by omega) (by
      have : n * 1 ≤ n * esz := Nat.mul_le_mul_left _ hes
      omega) (fun _ => ⟨_, rfl, by simp⟩) (fun h => by cases h)
  simpa using this
end ops
end Go.Proofs.Ytkollnaojpppcaa
