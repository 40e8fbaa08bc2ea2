/- An abstract machine for the text, part eighteen b: rows written in place; more operations; plain lemmas over any program; no condition. -/
import Derived.Test.YtkollnaojpppcaaAm18
namespace Go.Proofs.Ytkollnaojpppcaa
open Go.RowKit

section rows
variable {P : Program} {σ : AS} {B : Base} {G : Gh} {w : World} {a : Act}
/-- Rows of an array are written in place. -/
theorem R.rowsW (hr : R B G σ w a) {k m : Nat} {ob : AObj} (hk : lk σ.objs k = some ob) {b base cap : Nat} (hl : G.loc k = some (some b, base, cap, ob.sz)) {ys : List (List AV)} (hfit : m + ys.length ≤ ob.xs.length)
    (hrow : ∀ i, i < ys.length → (ys.getD i []).length = ob.sz) {f : Nat → Value} (hf : ∀ i j, i < ys.length → j < ob.sz → (f (i * ob.sz + j)).oneCell' = true ∧ Rv G ((ys.getD i []).getD j .any) (f (i * ob.sz + j))) :
    ∃ vs : Array Value, w.heap[b]? = some (.cells vs ob.t (0, 0)) ∧ base + m * ob.sz + ys.length * ob.sz ≤ vs.size ∧
      R B G (σ.upd [(k, some { ob with xs := spl ob.xs m ys })]) (w.setRow b (spl vs.toList (base + m * ob.sz) ((List.range (ys.length * ob.sz)).map f)).toArray) a := by
  obtain ⟨blk, ba, ca, g1, g2, g3, g4, g5⟩ := hr.heap.obj k ob hk
  rw [hl] at g1
  cases g1
  obtain ⟨vs, g6, g7, g8⟩ := g5
  have hcapm : (m + ys.length) * ob.sz ≤ cap * ob.sz := Nat.mul_le_mul_right _ (by omega)
  rw [Nat.add_mul] at hcapm
  have hfit2 : base + m * ob.sz + ((List.range (ys.length * ob.sz)).map f).length ≤ vs.toList.length := by simp; omega
  have hlen : (spl ob.xs m ys).length = ob.xs.length := spl_len hfit
  refine ⟨vs, g6, by omega, hr.n, fun s av hs => hr.slot s av hs, hr.defers, ?_, fun q hq => ?_⟩
  · obtain ⟨f1, f2, f3, f4, f5⟩ := setRow_frame w b (spl vs.toList (base + m * ob.sz) ((List.range (ys.length * ob.sz)).map f)).toArray
    refine hr.heap.step f1 f2 f3 (by rw [f4]; exact Nat.le_refl _) (Gh.le.refl G) rfl b k (fun q hq _ => f5 q hq) (.inr ⟨k, ob, _, hk, hl⟩) (fun q oq hq => ?_)
    simp only [AS.upd, updO, lk_st] at hq
    split at hq
    · rename_i eq; subst eq
      cases hq
      refine .inl ⟨rfl, ⟨some b, base, cap, hl, by simp only [hlen]; exact g2, g3, fun i hi => ?_, (spl vs.toList (base + m * ob.sz) ((List.range (ys.length * ob.sz)).map f)).toArray, ?_, ?_, fun i c hi hc => ?_⟩, fun b' x hl' => ?_⟩
      · simp only [hlen] at hi
        simp only [spl_getD hfit]
        split
        · exact hrow _ (by omega)
        · exact g4 i hi
      · simp [World.setRow, g6, Array.getElem?_modify]
      · simp only [List.size_toArray, spl_len hfit2, Array.length_toList]; exact g7
      · simp only [hlen] at hi
        replace hc : c < ob.sz := hc
        have hll : ((List.range (ys.length * ob.sz)).map f).length = ys.length * ob.sz := by simp
        have hget : (spl vs.toList (base + m * ob.sz) ((List.range (ys.length * ob.sz)).map f)).toArray.getD (base + (i * ob.sz + c)) undef = if m ≤ i ∧ i < m + ys.length then f ((i - m) * ob.sz + c) else vs.getD (base + (i * ob.sz + c)) undef := by
          have h1 := spl_getD hfit2 (base + (i * ob.sz + c)) undef
          have h2 : (spl vs.toList (base + m * ob.sz) ((List.range (ys.length * ob.sz)).map f)).toArray.getD (base + (i * ob.sz + c)) undef = (spl vs.toList (base + m * ob.sz) ((List.range (ys.length * ob.sz)).map f)).getD (base + (i * ob.sz + c)) undef := by simp [List.getD, Array.getD_eq_getD_getElem?]
          rw [h2, h1, hll]
          by_cases hin : m ≤ i ∧ i < m + ys.length
          · have h3 := dm_lt (show i - m < ys.length by omega) hc
            have h4 : (i - m) * ob.sz + m * ob.sz = i * ob.sz := by rw [← Nat.add_mul]; congr 1; omega
            rw [if_pos (by omega), if_pos hin]
            have e : base + (i * ob.sz + c) - (base + m * ob.sz) = (i - m) * ob.sz + c := by omega
            rw [e, map_getD _ _ _ h3]
          · rw [if_neg hin, if_neg ?_]
            · simp [List.getD, Array.getD_eq_getD_getElem?]
            · intro h5
              rcases Nat.lt_or_ge i m with h6 | h6
              · have h7 := dm_lt h6 hc; omega
              · have h7 : (m + ys.length) * ob.sz ≤ i * ob.sz := Nat.mul_le_mul_right _ (by omega)
                rw [Nat.add_mul] at h7; omega
        simp only [hget, spl_getD hfit]
        split
        · exact hf _ c (by omega) hc
        · exact g8 i c hi hc
      · rw [hl] at hl'; cases hl'; rfl
    · rename_i eq
      refine .inr ⟨Ne.symm eq, hq, fun b' x hl' e => eq ?_⟩
      subst e
      exact hr.heap.inj k q ob oq hk hq _ _ _ hl hl'
  · rw [AS.upd, updI_one]; exact .inr (hr.ids q hq)
/-- Where a slice of an array that has elements lies. -/
theorem ref_at (hr : R B G σ w a) {k off n : Nat} {ob : AObj} {v : Value} (hk : lk σ.objs k = some ob) (hv : Rv G (.ref k off n) v) (hlt : off < ob.xs.length) :
    ∃ b base cap, G.loc k = some (some b, base, cap, ob.sz) ∧ v = .slice (some ⟨b, base + off * ob.sz, none⟩) n (cap - off) ∧ off + n ≤ cap ∧ ob.xs.length ≤ cap ∧ cap ≤ 9223372036854775807 := by
  cases hv with
  | ref _ _ _ blk base cap sz ad hl hle hcm hb' h0 =>
    obtain ⟨blk', ba, ca, g1, g2, g3, g4, g5⟩ := hr.heap.obj k ob hk
    rw [hl] at g1
    cases g1
    obtain ⟨b', e1, rfl⟩ := hb' (by omega)
    subst e1
    exact ⟨b', base, cap, hl, rfl, hle, g2, hcm⟩
end rows

section ops
variable {P : Program} {σ : AS} {o : Oper}
/-- Append inside of what is there. -/
theorem ok_append_in {t : TypeId} {ti : TI} {e : TypeId} {eb : Nat} {ez : List Value} {s x : Operand} {k off n : Nat} {ob : AObj} {av : AV} {ys : List (List AV)} (hT : TIok P t ti) (hk : ti.kind = .slice e ob.sz eb ez)
    (ho : o.op = .call { callee := .builtin .append, args := #[s, x], argTypes := #[t, t] }) (hs : σ.ev s = some (.ref k off n)) (hob : lk σ.objs k = some ob) (hlt : off < ob.xs.length) (hend : off + n + ys.length ≤ ob.xs.length)
    (hx : σ.ev x = some av) (hys : σ.rows ob.sz av = some ys) :
    CoreOk P o σ (.ref k off (n + ys.length), [(k, some { ob with xs := spl ob.xs (off + n) ys })]) := by
  intro B G w a hr K Q hK
  obtain ⟨_, _, d, _, _, h3, _, _, _, hkk⟩ := hT.i
  rw [hk] at hkk
  obtain ⟨rfl, j, y, hj1, hj2, hj3, hj4, hj5⟩ := hkk
  obtain ⟨ad2, m, c2, hxv, hm, had2, hrow, f, hf1, hf2⟩ := hr.rows (hr.ev hx) hys
  subst hm
  obtain ⟨b, base, cap, hl, hsv, hle, hcap, hcm⟩ := ref_at hr hob (hr.ev hs) hlt
  obtain ⟨vs, h6, h7, h8⟩ := hr.rowsW hob hl (m := off + n) (ys := ys) (by omega) hrow hf2
  have hnews : ∀ x j u, ad2 = some x → ((List.range (ys.length * ob.sz)).map f)[j]? = some u → w.cell? (x.add j) = some u := fun x j u hx hu => by
    obtain ⟨h1, h2⟩ := range_get _ _ _ _ hu
    rw [hf1 x j hx h1, h2]
  have hone : ∀ u ∈ (List.range (ys.length * ob.sz)).map f, u.oneCell' = true := fun u hu => by
    simp only [List.mem_map, List.mem_range] at hu
    obtain ⟨q, hq, rfl⟩ := hu
    obtain ⟨i, c, hi, hc, rfl⟩ := dm_split hq
    exact (hf2 i c hi hc).1
  have hrun := run_append_roomAt (P := P) w t o.type e j h3 hj1 b (base + off * ob.sz) n (cap - off) ob.t vs h6 ad2 ys.length c2 ((List.range (ys.length * ob.sz)).map f) (by simp [hj2]) had2 hnews hone (by omega) (by
    rw [hj2]
    simp only [List.length_map, List.length_range]
    rw [Nat.add_mul] at h7; omega)
  have hop : (execOp a.eval o).run P w = .ok (.value (.slice (some ⟨b, base + off * ob.sz, none⟩) (n + ys.length) (cap - off))) (w.setRow b (spl vs.toList (base + (off + n) * ob.sz) ((List.range (ys.length * ob.sz)).map f)).toArray) := by
    unfold execOp
    rw [ho]
    have e : base + (off + n) * ob.sz = base + off * ob.sz + n * ob.sz := by rw [Nat.add_mul]; omega
    simp [resolve, invoke, builtin, hsv, hxv, hrun, hj2, e]
  unfold Oper.wp
  rw [hop]
  refine hK G _ _ (Gh.le.refl G) h8 ?_
  exact Rv.ref (G := G) k off (n + ys.length) (some b) base cap ob.sz _ hl (by omega) hcm (fun _ => ⟨_, rfl, rfl⟩) (fun h => by cases h)
/-- Elements are cleared. -/
theorem ok_clear {t : TypeId} {ti : TI} {e : TypeId} {eb : Nat} {ez : List Value} {x : Operand} {k off n : Nat} {ob : AObj} (hT : TIok P t ti) (hk : ti.kind = .slice e ob.sz eb ez)
    (ho : o.op = .call { callee := .builtin .clear, args := #[x], argTypes := #[t] }) (hx : σ.ev x = some (.ref k off n)) (hob : lk σ.objs k = some ob) (hfit : off + n ≤ ob.xs.length) :
    CoreOk P o σ (.v (.tuple #[]), [(k, some { ob with xs := spl ob.xs off (List.replicate n (ez.map .v)) })]) := by
  intro B G w a hr K Q hK
  obtain ⟨hezl, hezo⟩ := hT.ezero _ _ _ _ hk
  obtain ⟨_, _, d, _, _, h3, _, _, _, hkk⟩ := hT.i
  rw [hk] at hkk
  obtain ⟨rfl, j, y, hj1, hj2, hj3, hj4, hj5⟩ := hkk
  unfold Oper.wp
  by_cases hn : n = 0
  · subst hn
    have hv := hr.ev hx
    obtain ⟨ad, c, hsv⟩ : ∃ ad c, a.eval x = .slice ad 0 c := by
      generalize a.eval x = v at hv
      cases hv with
      | ref _ _ _ blk base cap sz ad hl hle hcm hb' h0 => exact ⟨_, _, rfl⟩
    have hop : (execOp a.eval o).run P w = .ok (.value (.tuple #[])) w := by
      unfold execOp
      rw [ho]
      cases ad <;> simp [resolve, invoke, builtin, hsv, Builtin.clear_, run_underlying h3]
    rw [hop]
    have hxs : spl ob.xs off (List.replicate 0 (ez.map AV.v)) = ob.xs := by simp [spl]
    refine hK G w _ (Gh.le.refl G) ?_ (.v _)
    rw [hxs]
    refine ⟨hr.n, hr.slot, hr.defers, ?_, fun q hq => by rw [AS.upd, updI_one]; exact .inr (hr.ids q hq)⟩
    have : lk (σ.upd [(k, some { ob with xs := ob.xs })]).objs = lk σ.objs := by
      funext q
      simp only [AS.upd, updO, lk_st]
      split
      · rename_i e; subst e; exact hob.symm
      · rfl
    rw [this]; exact hr.heap
  · obtain ⟨b, base, cap, hl, hsv, hle, hcap, hcm⟩ := ref_at hr hob (hr.ev hx) (by omega)
    have hzc : ∀ i c, c < ob.sz → (y.cells[(i * ob.sz + c) % y.cells.size]!) = ez.getD c undef := fun i c hc => by
      have h1 : y.cells.size = ob.sz := by rw [← hezl, ← hj5]; simp
      have h2 : (i * ob.sz + c) % y.cells.size = c := by rw [h1, Nat.add_comm, Nat.add_mul_mod_self_right, Nat.mod_eq_of_lt hc]
      rw [h2, ← hj5]
      simp [List.getD, show c < y.cells.size by omega]
    obtain ⟨vs, h6, h7, h8⟩ := hr.rowsW hob hl (m := off) (ys := List.replicate n (ez.map .v)) (by simpa using hfit) (fun i hi => by
        simp only [List.length_replicate] at hi
        simp [List.getD, hi, hezl]) (f := fun q => y.cells[q % y.cells.size]!) (fun i c hi hc => by
        simp only [List.length_replicate] at hi
        rw [hzc i c hc]
        have hcl : c < ez.length := by omega
        have e1 : ez.getD c undef = ez[c] := by simp [List.getD, hcl]
        have e2 : ((List.replicate n (ez.map AV.v)).getD i []).getD c .any = .v (ez.getD c undef) := by simp [List.getD, hi, hcl]
        rw [e2]
        exact ⟨by rw [e1]; exact hezo _ (List.getElem_mem hcl), .v _⟩)
    simp only [List.length_replicate] at h7 h8
    have hzr : (Builtin.zeroCells y.cells n).toList = (List.range (n * ob.sz)).map fun q => y.cells[q % y.cells.size]! := by
      have h1 : y.cells.size = ob.sz := by rw [← hezl, ← hj5]; simp
      unfold Builtin.zeroCells
      rw [h1, Array.toList_map, Array.toList_range]
    have hst := run_storeCells_at P b (base + off * ob.sz) ob.t (Builtin.zeroCells y.cells n).toList 0 vs w h6 (by
        rw [hzr]; simp only [List.length_map, List.length_range, Nat.add_zero]; exact h7) (fun v hv => by
        rw [hzr] at hv
        simp only [List.mem_map, List.mem_range] at hv
        obtain ⟨q, hq, rfl⟩ := hv
        obtain ⟨i, c, hi, hc, rfl⟩ := dm_split hq
        rw [hzc i c hc]
        have hcl : c < ez.length := by omega
        have e1 : ez.getD c undef = ez[c] := by simp [List.getD, hcl]
        rw [e1]; exact hezo _ (List.getElem_mem hcl))
    have hop : (execOp a.eval o).run P w = .ok (.value (.tuple #[])) (w.setRow b (spl vs.toList (base + off * ob.sz) ((List.range (n * ob.sz)).map fun q => y.cells[q % y.cells.size]!)).toArray) := by
      unfold execOp
      rw [ho]
      obtain ⟨n', rfl⟩ : ∃ n', n = n' + 1 := ⟨n - 1, by omega⟩
      have hz : ∀ w, (zeroValue e).run P w = .ok y w := fun w => by simp [zeroValue, typeInfo, hj1, hj4]
      have hzs : (Builtin.zeroCells y.cells (n' + 1)).size = (n' + 1) * ob.sz := by
        rw [size_zeroCells]
        congr 1
        rw [← hezl, ← hj5]; simp
      simp [resolve, invoke, builtin, hsv, Builtin.clear_, run_underlying h3, hz, hst, spl]
      rw [← hzr, hzs]
    rw [hop]
    exact hK G _ _ (Gh.le.refl G) h8 (.v _)
theorem run_append_zeros {P : Program} (w : World) (t tn ty e : TypeId) (i : TypeInfo) (z : Value) {kn : IntKind} (ht : P.underlying t = some (.slice e)) (htn : P.underlying tn = some (.int kn)) (hi : P.info? e = some i) (hz : i.zero = some z) (k : IntKind) (n : Nat) (h0 : 0 < n) (hs0 : 0 < i.size) (h63 : n ≤ 140737488355328) (h48 : n * i.bytes ≤ 281474976710656) :
    (Builtin.append_ #[t, tn] ty #[.slice none 0 0, .int k (n : Int)]).run P w =
      .ok (.slice (some ⟨w.heap.size, 0, none⟩) n (grownCap w n 0 e)) (w.drew.alloc (.cells (Builtin.zeroCells z.cells n ++ Builtin.zeroCells z.cells (grownCap w n 0 e - n)) e)) := by
  have hw : IntKind.i64.wrap (n : Int) = n := IntWalk.i64_in _ ⟨by omega, by omega⟩
  have hn : n ≠ 0 := by omega
  have h1 : ¬ ((n : Int) < 0) := by omega
  have h2 : ¬ (281474976710656 < (n : Int) * (i.bytes : Int)) := by
    have : ((n * i.bytes : Nat) : Int) ≤ 281474976710656 := by omega
    rw [Int.natCast_mul] at this; omega
  have h3 : ¬ (9223372036854775807 < (n : Int)) := by omega
  have h48' : ¬ (281474976710656 < Builtin.nextslicecap n 0 * i.bytes) := by rw [nextslicecap_zero h0]; omega
  have hs : i.size ≠ 0 := by omega
  simp [Builtin.append_, run_underlying ht, run_underlying htn, sizeOf, typeInfo, zeroValue, hi, hz, hw, asInt, asIntOf, hn, h1, h2, h3, h48', hs, Question.forced, run_firstCells_none, newRow, grownCap]
  intro h
  rcases Nat.mul_eq_zero.1 h with h | h <;> omega
theorem ok_append_zeros {t tn : TypeId} {ti : TI} {e : TypeId} {esz eb : Nat} {ez : List Value} {s x : Operand} {id n : Nat} {kn k : IntKind} (hT : TIok P t ti) (hk : ti.kind = .slice e esz eb ez) (htn : P.underlying tn = some (.int kn))
    (ho : o.op = .call { callee := .builtin .append, args := #[s, x], argTypes := #[t, tn] }) (hs : σ.ev s = some (.v (.slice none 0 0)))
    (hx : σ.ev x = some (.v (.int k (n : Int)))) (hb : n * eb ≤ 140737488355328) (heb : 0 < eb) (hes : 0 < esz) (hpos : 0 < n) (hid : id ∉ σ.ids) :
    CoreOk P o σ (.ref id 0 n, [(id, some ⟨e, esz, List.replicate n (ez.map .v)⟩)]) := by
  intro B G w a hr K Q hK
  obtain ⟨_, _, d, _, _, h3, _, _, _, hkk⟩ := hT.i
  rw [hk] at hkk
  obtain ⟨rfl, j, y, hj1, hj2, hj3, hj4, hj5⟩ := hkk
  obtain ⟨hezl, hezo⟩ := hT.ezero _ _ _ _ hk
  have hsv := (hr.ev hs).v_eq
  have hxv := (hr.ev hx).v_eq
  have hneed : n ≤ 140737488355328 := by
    have : n * 1 ≤ n * eb := Nat.mul_le_mul_left _ heb
    omega
  have hge := grownCap_ge w n 0 e
  have hcapg : grownCap w n 0 e ≤ 9223372036854775807 := by
    have := grownCap_le_maxLen w n 0 e (by rw [maxLen_eq]; omega)
    rw [maxLen_eq] at this; exact this
  have hysz : y.cells.size = esz := by rw [← hezl, ← hj5]; simp
  have hzs : ∀ q, (Builtin.zeroCells y.cells q).size = q * esz := fun q => by rw [size_zeroCells, hysz]
  have hzc : ∀ i c, c < esz → (y.cells[(i * esz + c) % y.cells.size]!) = ez.getD c undef := fun i c hc => by
    have h2 : (i * esz + c) % y.cells.size = c := by rw [hysz, Nat.add_comm, Nat.add_mul_mod_self_right, Nat.mod_eq_of_lt hc]
    rw [h2, ← hj5]
    simp [List.getD, show c < y.cells.size by omega]
  have hzr : Builtin.zeroCells y.cells n = ((List.range (n * esz)).map fun q => y.cells[q % y.cells.size]!).toArray := by
    unfold Builtin.zeroCells
    rw [hysz]
    apply Array.ext'
    rw [Array.toList_map, Array.toList_range]
  have hcat := cat_val (G := G) (n := 0) (m := n) (sz := esz) (f0 := fun _ => undef) (f := fun q => y.cells[q % y.cells.size]!) (xs := []) (ys := List.replicate n (ez.map .v)) (z := Builtin.zeroCells y.cells (grownCap w n 0 e - n)) rfl (by simp) (fun i j hi => by omega) (fun i c hi hc => by
    rw [hzc i c hc]
    have hcl : c < ez.length := by omega
    have e1 : ez.getD c undef = ez[c] := by simp [List.getD, hcl]
    have e2 : ((List.replicate n (ez.map AV.v)).getD i []).getD c .any = .v (ez.getD c undef) := by simp [List.getD, hi, hcl]
    rw [e2]
    exact ⟨by rw [e1]; exact hezo _ (List.getElem_mem hcl), .v _⟩)
  rw [show ((List.range (0 * esz)).map fun _ => undef).toArray = #[] by simp, Array.empty_append, List.nil_append, ← hzr] at hcat
  obtain ⟨r1, r2⟩ := hr.new hid (t := e) (sz := esz) (cap := grownCap w n 0 e) (xs := List.replicate n (ez.map .v)) (vs := Builtin.zeroCells y.cells n ++ Builtin.zeroCells y.cells (grownCap w n 0 e - n)) (by simpa using hge) hcapg (by
      simp [hzs]
      rw [← Nat.add_mul]; exact Nat.mul_le_mul_right _ (by omega)) (fun i hi => by
        simp only [List.length_replicate] at hi
        simp [List.getD, hi, hezl]) hcat (w1 := w.drew) ⟨rfl, rfl, rfl, rfl⟩
  have hrun := run_append_zeros (P := P) w t tn o.type e j y h3 htn hj1 hj4 k n hpos (by omega) hneed (by rw [hj3]; omega)
  unfold Oper.wp
  have hop : (execOp a.eval o).run P w = .ok (.value (.slice (some ⟨w.heap.size, 0, none⟩) n (grownCap w n 0 e))) (w.drew.alloc (.cells (Builtin.zeroCells y.cells n ++ Builtin.zeroCells y.cells (grownCap w n 0 e - n)) e)) := by
    unfold execOp
    rw [ho]
    simp [resolve, invoke, builtin, hsv, hxv, hrun]
  rw [hop]
  refine hK _ _ _ r1 r2 ?_
  have := Rv.ref (G := G.add id (some w.heap.size, 0, grownCap w n 0 e, esz)) id 0 n (some w.heap.size) 0 (grownCap w n 0 e) esz (some ⟨w.heap.size, 0, none⟩) Gh.add_self (by omega) hcapg (fun _ => ⟨_, rfl, by simp⟩) (fun h => by cases h)
  simpa using this
/-- A part of nil. -/
theorem ok_slice_nil {t : TypeId} {ti : TI} {e : TypeId} {esz eb : Nat} {ez : List Value} {x : Operand} {lo hi : Option Operand} (hT : TIok P t ti) (hk : ti.kind = .slice e esz eb ez) (ho : o.op = .slice t x lo hi none) (hx : σ.ev x = some (.v (.slice none 0 0))) (hb : bndA σ 0 lo hi = some (0, 0)) :
    CoreOk P o σ (.v (.slice none 0 0), []) :=
  CoreOk.pure fun B G w a hr => by
    obtain ⟨_, _, d, _, _, h3, _, _, _, hkk⟩ := hT.i
    rw [hk] at hkk
    obtain ⟨rfl, j, y, hj1, hj2, _⟩ := hkk
    have hv := (hr.ev hx).v_eq
    obtain ⟨_, _, h5⟩ := bndA_ok (P := P) hr (c := 0) (Nat.le_refl _) hb
    refine ⟨.slice none 0 0, ?_, .v _⟩
    unfold execOp
    rw [ho]
    have hs : ∀ w, (sizeOf e).run P w = .ok esz w := fun w => size_of_info hj1 hj2
    simp only [Instr.sliceAt, hv, Option.map_none, Sem.run_bind, run_underlying h3, Result.andThen_ok, Instr.slice, h5, hs, Sem.run_pure]
    rfl
theorem ok_cap_nil {t : TypeId} {ti : TI} {e : TypeId} {esz eb : Nat} {ez : List Value} {x : Operand} (hT : TIok P t ti) (hk : ti.kind = .slice e esz eb ez)
    (ho : o.op = .call { callee := .builtin .cap, args := #[x], argTypes := #[t] }) (hx : σ.ev x = some (.v (.slice none 0 0))) : CoreOk P o σ (.v (.int .i64 0), []) :=
  CoreOk.pure fun B G w a hr => by
    obtain ⟨_, _, d, _, _, h3, _, _, _, hkk⟩ := hT.i
    rw [hk] at hkk
    obtain ⟨rfl, _⟩ := hkk
    refine ⟨.int .i64 0, ?_, .v _⟩
    have hv := (hr.ev hx).v_eq
    unfold execOp
    rw [ho]
    simp [resolve, invoke, builtin, hv, Builtin.cap_, run_underlying h3, goInt]
end ops

section coreX
variable (TT : TTab) (σ : AS) (id : Nat)
def cAppIn (t : TypeId) (s x : Operand) : Option Res :=
  match TT t, σ.ev s, σ.ev x with
  | some ti, some (.ref k off n), some av =>
    match ti.kind, lk σ.objs k with
    | .slice _ esz _ _, some ob => match σ.rows ob.sz av with
      | some ys => if ob.sz = esz ∧ off < ob.xs.length ∧ off + n + ys.length ≤ ob.xs.length then some (.ref k off (n + ys.length), [(k, some { ob with xs := spl ob.xs (off + n) ys })]) else none
      | none => none
    | _, _ => none
  | _, _, _ => none
def cClear (t : TypeId) (x : Operand) : Option Res :=
  match TT t, σ.ev x with
  | some ti, some (.ref k off n) =>
    match ti.kind, lk σ.objs k with
    | .slice _ esz _ ez, some ob => if ob.sz = esz ∧ off + n ≤ ob.xs.length then some (.v (.tuple #[]), [(k, some { ob with xs := spl ob.xs off (List.replicate n (ez.map .v)) })]) else none
    | _, _ => none
  | _, _ => none
def cCap (t : TypeId) (x : Operand) : Option Res :=
  match TT t, σ.ev x with
  | some ti, some (.v (.slice none 0 0)) => match ti.kind with
    | .slice _ _ _ _ => some (.v (.int .i64 0), [])
    | _ => none
  | _, _ => none
def isIntT (t : TypeId) : Bool := match plainOf TT t with
  | some (.int _) => true
  | _ => false
def cAppZ (t u : TypeId) (s x : Operand) : Option Res :=
  match TT t, σ.ev s, σ.ev x with
  | some ti, some (.v (.slice none 0 0)), some (.v (.int _ n)) =>
    match ti.kind with
    | .slice e esz eb ez => if isIntT TT u = true ∧ 0 < n ∧ n.toNat * eb ≤ 140737488355328 ∧ 0 < eb ∧ 0 < esz ∧ id ∉ σ.ids then some (.ref id 0 n.toNat, [(id, some ⟨e, esz, List.replicate n.toNat (ez.map .v)⟩)]) else none
    | _ => none
  | _, _, _ => none
def cSliceNil (t : TypeId) (x : Operand) (lo hi : Option Operand) : Option Res :=
  match TT t, σ.ev x with
  | some ti, some (.v (.slice none 0 0)) => match ti.kind with
    | .slice _ _ _ _ => if bndA σ 0 lo hi = some (0, 0) then some (.v (.slice none 0 0), []) else none
    | _ => none
  | _, _ => none
/-- More operations. -/
def coreX (o : Oper) : Option Res :=
  match o.op with
  | .slice t x lo hi none => cSliceNil TT σ t x lo hi
  | .call { callee := .builtin .append, args := as, argTypes := ts } => match as.toList, ts.toList with
    | [s, x], [t, u] => if t = u then cAppIn TT σ t s x else cAppZ TT σ id t u s x
    | _, _ => none
  | .call { callee := .builtin .clear, args := as, argTypes := ts } => match as.toList, ts.toList with
    | [x], [t] => cClear TT σ t x
    | _, _ => none
  | .call { callee := .builtin .cap, args := as, argTypes := ts } => match as.toList, ts.toList with
    | [x], [t] => cCap TT σ t x
    | _, _ => none
  | _ => none
end coreX
theorem arr2 {α : Type} {as : Array α} {x y : α} (h : as.toList = [x, y]) : as = #[x, y] := by cases as; simp at h; rw [h]
theorem arr1 {α : Type} {as : Array α} {x : α} (h : as.toList = [x]) : as = #[x] := by cases as; simp at h; rw [h]
theorem coreX_ok {P : Program} {TT : TTab} (hTT : TTok P TT) {σ : AS} {id : Nat} {o : Oper} {r : Res} (h : coreX TT σ id o = some r) : CoreOk P o σ r ∧ ∀ c, o.op ≠ .defer c := by
  unfold coreX at h
  split at h
  · rename_i t x lo hi ho
    refine ⟨?_, fun c hc => by rw [ho] at hc; cases hc⟩
    unfold cSliceNil at h
    split at h
    · rename_i ti hti hx
      split at h
      · rename_i e esz eb ez hk
        split at h
        · rename_i hb
          cases h
          exact ok_slice_nil (hTT _ _ hti) hk ho hx hb
        · cases h
      · cases h
    · cases h
  · rename_i as ts ho
    refine ⟨?_, fun c hc => by rw [ho] at hc; cases hc⟩
    split at h
    · rename_i s x t u ha ht
      split at h
      · rename_i e
        subst e
        rw [arr2 ha, arr2 ht] at ho
        unfold cAppIn at h
        split at h
        · rename_i ti k off n av hti hs hx
          split at h
          · rename_i e esz eb ez ob hk hob
            split at h
            · rename_i ys hys
              split at h
              · rename_i hc
                obtain ⟨rfl, h1, h2⟩ := hc
                cases h
                exact ok_append_in (hTT _ _ hti) hk ho hs hob h1 h2 hx hys
              · cases h
            · cases h
          · cases h
        · cases h
      · rw [arr2 ha, arr2 ht] at ho
        unfold cAppZ at h
        split at h
        · rename_i ti k n hti hs hx
          split at h
          · rename_i e esz eb ez hk
            split at h
            · rename_i hc
              obtain ⟨h1, h2, h3, h4, h5, h6⟩ := hc
              cases h
              unfold isIntT at h1
              split at h1
              · rename_i kn hpl
                exact ok_append_zeros (n := n.toNat) (hTT _ _ hti) hk (plainOf_ok hTT hpl) ho hs (by rw [hx, Int.toNat_of_nonneg (by omega)]) h3 h4 h5 (by omega) h6
              · cases h1
            · cases h
          · cases h
        · cases h
    · cases h
  · rename_i as ts ho
    refine ⟨?_, fun c hc => by rw [ho] at hc; cases hc⟩
    split at h
    · rename_i x t ha ht
      rw [arr1 ha, arr1 ht] at ho
      unfold cClear at h
      split at h
      · rename_i ti k off n hti hx
        split at h
        · rename_i e esz eb ez ob hk hob
          split at h
          · rename_i hc
            obtain ⟨rfl, h1⟩ := hc
            cases h
            exact ok_clear (hTT _ _ hti) hk ho hx hob h1
          · cases h
        · cases h
      · cases h
    · cases h
  · rename_i as ts ho
    refine ⟨?_, fun c hc => by rw [ho] at hc; cases hc⟩
    split at h
    · rename_i x t ha ht
      rw [arr1 ha, arr1 ht] at ho
      unfold cCap at h
      split at h
      · rename_i ti hti hx
        split at h
        · rename_i e esz eb ez hk
          cases h
          exact ok_cap_nil (hTT _ _ hti) hk ho hx
        · cases h
      · cases h
    · cases h
  · cases h
/-- One operation of a region, the further ones too. -/
def stepX (TT : TTab) (PT : PTab) (ops : Array Oper) (id : Nat) (σ : AS) (o : Oper) : Option AS :=
  match stepA TT PT ops id σ o with
  | some τ => some τ
  | none => if dstOk σ o = true then
      match wantA σ ops o with
      | some true => match coreX TT σ id o with
        | some r => some ((σ.upd r.2).put o.dst r.1)
        | none => none
      | _ => none
    else none
theorem spl_stepX {P : Program} {TT : TTab} {PT : PTab} {B : Base} {ops : Array Oper} {σ : AS} {Q : Exit → AS → Prop} (hTT : TTok P TT) (hPT : PTok P PT) {id : Nat} {o : Oper} {r : List Oper} {σ' : AS} (h : stepX TT PT ops id σ o = some σ') (k : SPL P B ops r σ' Q) : SPL P B ops (o :: r) σ Q := by
  unfold stepX at h
  split at h
  · rename_i τ ht
    cases h
    exact spl_step hTT hPT ht k
  · split at h
    · rename_i hd
      split at h
      · rename_i hw
        split at h
        · rename_i s hs
          cases h
          obtain ⟨h1, h2⟩ := coreX_ok hTT hs
          exact spl_op hd hw h1 k h2
        · cases h
      · cases h
    · cases h
end Go.Proofs.Ytkollnaojpppcaa
