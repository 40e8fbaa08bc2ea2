/- An abstract machine for the text, part nine: append as an operation; make; slices of slices; plain lemmas over any program; no condition. -/
import Derived.Test.YtkollnaojpppcaaAm8
namespace Go.Proofs.Ytkollnaojpppcaa
open Go.RowKit

section app
variable {P : Program} {σ : AS} {B : Base} {G : Gh} {w : World} {a : Act} {o : Oper}

theorem dm_lt {i n j sz : Nat} (hi : i < n) (hj : j < sz) : i * sz + j < n * sz := by
  have : (i + 1) * sz ≤ n * sz := Nat.mul_le_mul_right _ hi
  rw [Nat.add_mul] at this; omega
theorem dm_split {q n sz : Nat} (h : q < n * sz) : ∃ i j, i < n ∧ j < sz ∧ q = i * sz + j := by
  have hsz : 0 < sz := by
    rcases Nat.eq_zero_or_pos sz with h' | h'
    · rw [h'] at h; simp at h
    · exact h'
  refine ⟨q / sz, q % sz, (Nat.div_lt_iff_lt_mul hsz).2 h, Nat.mod_lt _ hsz, ?_⟩
  have := Nat.div_add_mod q sz
  rw [Nat.mul_comm] at this; omega
theorem map_getD (f : Nat → Value) (n q : Nat) (h : q < n) : ((List.range n).map f).getD q undef = f q := by simp [List.getD, h]

/-- What is let go and made: names. -/
theorem R.upd_ids (hr : R B G σ w a) {G' : Gh} {id : Nat} {l : Option Nat × Nat × Nat × Nat} (hG : G' = G.add id l) (u : List (Nat × Option AObj)) (hu : id ∈ u.map (·.1)) : ∀ k, G'.loc k ≠ none → k ∈ updI σ.ids u := by
  subst hG
  intro k hk
  rw [updI_mem]
  simp only [Gh.add] at hk
  split at hk
  · rename_i e; subst e; exact .inl hu
  · exact .inr (hr.ids k hk)

/-- An array is let go, and another one without a block is made. -/
theorem R.addnil (hr : R B G σ w a) {k id : Nat} (hid : id ∉ σ.ids) {t : TypeId} {sz base : Nat} : G.le (G.add id (none, base, 0, sz)) ∧ R B (G.add id (none, base, 0, sz)) (σ.upd [(k, none), (id, some ⟨t, sz, []⟩)]) w a := by
  have hn := hr.fresh hid
  have hle : G.le (G.add id (none, base, 0, sz)) := Gh.add_le hn
  refine ⟨hle, hr.n, fun s av hs => ⟨(hr.slot s av hs).1, (hr.slot s av hs).2.mono hle⟩, hr.defers, ?_, hr.upd_ids rfl _ (by simp)⟩
  have hh := hr.heap
  have key : ∀ q ob, lk (σ.upd [(k, none), (id, some ⟨t, sz, []⟩)]).objs q = some ob → (q = id ∧ ob = ⟨t, sz, []⟩) ∨ (q ≠ id ∧ lk σ.objs q = some ob) := fun q ob hq => by
    simp only [AS.upd, updO, lk_st, lk_dl] at hq
    split at hq
    · rename_i e; exact .inl ⟨e.symm, by cases hq; rfl⟩
    · rename_i e
      split at hq
      · cases hq
      · exact .inr ⟨Ne.symm e, hq⟩
  have hloc : ∀ q ob b x, lk (σ.upd [(k, none), (id, some ⟨t, sz, []⟩)]).objs q = some ob → (G.add id (none, base, 0, sz)).loc q = some (some b, x) → lk σ.objs q = some ob ∧ G.loc q = some (some b, x) := fun q ob b x hq hl => by
    rcases key q ob hq with ⟨rfl, rfl⟩ | ⟨h1, h2⟩
    · rw [Gh.add_self] at hl; cases hl
    · refine ⟨h2, ?_⟩
      have : (G.add id (none, base, 0, sz)).loc q = G.loc q := if_neg h1
      rw [this] at hl; exact hl
  refine ⟨hh.os, hh.tape, hh.output, hh.size, hh.old, fun q ob hq => ?_, fun q ob hq b ba ca s hl => hh.own q ob (hloc _ _ _ _ hq hl).1 _ _ _ _ (hloc _ _ _ _ hq hl).2, fun q q' ob ob' hq hq' b x y hl hl' => hh.inj q q' ob ob' (hloc _ _ _ _ hq hl).1 (hloc _ _ _ _ hq' hl').1 b x y (hloc _ _ _ _ hq hl).2 (hloc _ _ _ _ hq' hl').2, hh.st, fun q ob hq b x hl => hh.sep q ob (hloc _ _ _ _ hq hl).1 b x (hloc _ _ _ _ hq hl).2, hh.fresh, hh.keep, fun k l hk => hle.loc _ _ (hh.fix k l hk), hh.pin, hh.base⟩
  rcases key q ob hq with ⟨rfl, rfl⟩ | ⟨h1, h2⟩
  · exact ⟨none, base, 0, Gh.add_self, by simp, by omega, fun i hi => by simp at hi, rfl⟩
  · exact (hh.obj q ob h2).mono hle fun _ _ _ _ _ => rfl

/-- An array grows in its own block. -/
theorem R.extend (hr : R B G σ w a) {k id off n : Nat} (hid : id ∉ σ.ids) {ob : AObj} (hk : lk σ.objs k = some ob) {b base cap : Nat} (hl : G.loc k = some (some b, base, cap, ob.sz)) (hend : off + n = ob.xs.length) {ys : List (List AV)} {m : Nat} (hm : m = ys.length) (hroom : off + n + m ≤ cap)
    (hrow : ∀ i, i < m → (ys.getD i []).length = ob.sz) {f : Nat → Value} (hf : ∀ i j, i < m → j < ob.sz → (f (i * ob.sz + j)).oneCell' = true ∧ Rv G ((ys.getD i []).getD j .any) (f (i * ob.sz + j))) {vs : Array Value} (hvs : w.heap[b]? = some (.cells vs ob.t (0, 0))) :
    G.le (G.add id (some b, base + off * ob.sz, cap - off, ob.sz)) ∧ R B (G.add id (some b, base + off * ob.sz, cap - off, ob.sz)) (σ.upd [(k, none), (id, some ⟨ob.t, ob.sz, ob.xs.drop off ++ ys⟩)])
      (w.setRow b (spl vs.toList (base + off * ob.sz + n * ob.sz) ((List.range (m * ob.sz)).map f)).toArray) a := by
  have hn := hr.fresh hid
  have hle : G.le (G.add id (some b, base + off * ob.sz, cap - off, ob.sz)) := Gh.add_le hn
  obtain ⟨blk, ba, ca, g1, g2, g3, g4, g5⟩ := hr.heap.obj k ob hk
  rw [hl] at g1
  cases g1
  obtain ⟨vs', g6, g7, g8⟩ := g5
  rw [hvs] at g6
  cases g6
  have hcapm : (off + n + m) * ob.sz ≤ cap * ob.sz := Nat.mul_le_mul_right _ hroom
  rw [Nat.add_mul, Nat.add_mul] at hcapm
  have hfit : base + off * ob.sz + n * ob.sz + ((List.range (m * ob.sz)).map f).length ≤ vs.toList.length := by simp; omega
  refine ⟨hle, hr.n, fun s av hs => ⟨(hr.slot s av hs).1, (hr.slot s av hs).2.mono hle⟩, hr.defers, ?_, hr.upd_ids rfl _ (by simp)⟩
  obtain ⟨f1, f2, f3, f4, f5⟩ := setRow_frame w b (spl vs.toList (base + off * ob.sz + n * ob.sz) ((List.range (m * ob.sz)).map f)).toArray
  refine hr.heap.step f1 f2 f3 (by rw [f4]; exact Nat.le_refl _) hle rfl b id (fun q hq _ => f5 q hq) (.inr ⟨k, ob, _, hk, hl⟩) (fun q oq hq => ?_)
  simp only [AS.upd, updO, lk_st, lk_dl] at hq
  split at hq
  · rename_i e; subst e
    cases hq
    have hlen : (ob.xs.drop off ++ ys).length = n + m := by simp; omega
    have hget : ∀ i, (ob.xs.drop off ++ ys).getD i [] = if i < n then ob.xs.getD (off + i) [] else ys.getD (i - n) [] := fun i => by
      simp only [List.getD]
      split
      · rw [List.getElem?_append_left (by simp; omega), List.getElem?_drop]
      · rw [List.getElem?_append_right (by simp; omega)]; congr 2; simp; omega
    refine .inl ⟨rfl, ⟨some b, base + off * ob.sz, cap - off, Gh.add_self, by simp only [hlen]; omega, by omega, fun i hi => ?_, (spl vs.toList (base + off * ob.sz + n * ob.sz) ((List.range (m * ob.sz)).map f)).toArray, ?_, ?_, fun i c hi hc => ?_⟩, fun b' x hl' => ?_⟩
    · simp only [hlen] at hi
      rw [hget]
      split
      · exact g4 _ (by omega)
      · exact hrow _ (by omega)
    · simp [World.setRow, hvs, Array.getElem?_modify]
    · simp only [List.size_toArray, spl_len hfit, Array.length_toList]
      have : (cap - off) * ob.sz + off * ob.sz = cap * ob.sz := by rw [← Nat.add_mul]; congr 1; omega
      omega
    · simp only [hlen] at hi
      replace hc : c < ob.sz := hc
      have hg2 : (spl vs.toList (base + off * ob.sz + n * ob.sz) ((List.range (m * ob.sz)).map f)).toArray.getD (base + off * ob.sz + (i * ob.sz + c)) undef = if i < n then vs.getD (base + ((off + i) * ob.sz + c)) undef else f ((i - n) * ob.sz + c) := by
        have h1 := spl_getD hfit (base + off * ob.sz + (i * ob.sz + c)) undef
        have h2 : (spl vs.toList (base + off * ob.sz + n * ob.sz) ((List.range (m * ob.sz)).map f)).toArray.getD (base + off * ob.sz + (i * ob.sz + c)) undef = (spl vs.toList (base + off * ob.sz + n * ob.sz) ((List.range (m * ob.sz)).map f)).getD (base + off * ob.sz + (i * ob.sz + c)) undef := by simp [List.getD, Array.getD_eq_getD_getElem?]
        rw [h2, h1]
        have hll : ((List.range (m * ob.sz)).map f).length = m * ob.sz := by simp
        rw [hll]
        by_cases hin : i < n
        · have := dm_lt hin hc
          rw [if_neg (by omega), if_pos hin]
          have e : base + off * ob.sz + (i * ob.sz + c) = base + ((off + i) * ob.sz + c) := by rw [Nat.add_mul]; omega
          rw [e]; simp [List.getD, Array.getD_eq_getD_getElem?]
        · have h3 := dm_lt (show i - n < m by omega) hc
          have h4 : (i - n) * ob.sz + n * ob.sz = i * ob.sz := by rw [← Nat.add_mul]; congr 1; omega
          rw [if_pos (by omega), if_neg hin]
          have e : base + off * ob.sz + (i * ob.sz + c) - (base + off * ob.sz + n * ob.sz) = (i - n) * ob.sz + c := by omega
          rw [e, map_getD _ _ _ h3]
      simp only [hg2, hget]
      split
      · have := g8 (off + i) c (by omega) hc
        exact ⟨this.1, this.2.mono hle⟩
      · have := hf (i - n) c (by omega) hc
        exact ⟨this.1, this.2.mono hle⟩
    · rw [Gh.add_self] at hl'; cases hl'; rfl
  · rename_i e
    split at hq
    · cases hq
    · rename_i e2
      refine .inr ⟨Ne.symm e, hq, fun b' x hl' eb => e2 ?_⟩
      subst eb
      exact hr.heap.inj k q ob oq hk hq _ _ _ hl hl'

theorem run_append_zero {P : Program} (w : World) (t ty e : TypeId) (i : TypeInfo) (ht : P.underlying t = some (.slice e)) (hi : P.info? e = some i) (ad ad2 : Option Addr) (n c c2 : Nat) (hn : n ≤ c) :
    (Builtin.append_ #[t, t] ty #[.slice ad n c, .slice ad2 0 c2]).run P w = .ok (.slice ad n c) w := by
  have hf : (Builtin.firstCells i.size 0 (.slice ad2 0 c2)).run P w = .ok #[] w := by
    cases ad2 with
    | some x => simp [Builtin.firstCells, loadCells, loadCellsFrom]
    | none => simp [Builtin.firstCells]
  cases ad with
  | some x => simp [Builtin.append_, run_underlying ht, sizeOf, typeInfo, hi, Builtin.lenOf, hn, hf, storeCells]
  | none => simp [Builtin.append_, run_underlying ht, sizeOf, typeInfo, hi, Builtin.lenOf, hn, hf]

theorem maxLen_eq : maxLen = 9223372036854775807 := rfl
/-- Rows of old and new elements in a block that was just made. -/
theorem cat_val {n m sz : Nat} {f0 f : Nat → Value} {xs ys : List (List AV)} {z : Array Value} (hn : n = xs.length) (hm : m = ys.length)
    (h0 : ∀ i j, i < n → j < sz → (f0 (i * sz + j)).oneCell' = true ∧ Rv G ((xs.getD i []).getD j .any) (f0 (i * sz + j))) (h1 : ∀ i j, i < m → j < sz → (f (i * sz + j)).oneCell' = true ∧ Rv G ((ys.getD i []).getD j .any) (f (i * sz + j))) :
    ∀ i j, i < (xs ++ ys).length → j < sz → ((((List.range (n * sz)).map f0).toArray ++ ((List.range (m * sz)).map f).toArray ++ z).getD (i * sz + j) undef).oneCell' = true ∧ Rv G (((xs ++ ys).getD i []).getD j .any) ((((List.range (n * sz)).map f0).toArray ++ ((List.range (m * sz)).map f).toArray ++ z).getD (i * sz + j) undef) := by
  intro i j hi hj
  simp only [List.length_append, ← hn, ← hm] at hi
  by_cases hin : i < n
  · have hlt := dm_lt hin hj
    have e1 : (xs ++ ys).getD i [] = xs.getD i [] := by simp only [List.getD]; rw [List.getElem?_append_left (by omega)]
    have e2 : (((List.range (n * sz)).map f0).toArray ++ ((List.range (m * sz)).map f).toArray ++ z).getD (i * sz + j) undef = f0 (i * sz + j) := by
      rw [Array.getD_eq_getD_getElem?, Array.append_assoc, Array.getElem?_append_left (by simpa using hlt)]
      simp [hlt]
    rw [e1, e2]; exact h0 i j hin hj
  · have h4 : (i - n) * sz + n * sz = i * sz := by rw [← Nat.add_mul]; congr 1; omega
    have hlt := dm_lt (show i - n < m by omega) hj
    have e1 : (xs ++ ys).getD i [] = ys.getD (i - n) [] := by simp only [List.getD]; rw [List.getElem?_append_right (by omega)]; congr 2; omega
    have e2 : (((List.range (n * sz)).map f0).toArray ++ ((List.range (m * sz)).map f).toArray ++ z).getD (i * sz + j) undef = f ((i - n) * sz + j) := by
      rw [Array.getD_eq_getD_getElem?, Array.getElem?_append_left (by simp; omega), Array.getElem?_append_right (by simp; omega)]
      have : i * sz + j - ((List.range (n * sz)).map f0).toArray.size = (i - n) * sz + j := by simp; omega
      rw [this]
      simp [hlt]
    rw [e1, e2]; exact h1 (i - n) j (by omega) hj

theorem ok_append {t : TypeId} {ti : TI} {e : TypeId} {eb : Nat} {ez : List Value} {s x : Operand} {k off n id : Nat} {ob : AObj} {av : AV} {ys : List (List AV)} (hT : TIok P t ti) (hk : ti.kind = .slice e ob.sz eb ez)
    (ho : o.op = .call { callee := .builtin .append, args := #[s, x], argTypes := #[t, t] }) (hs : σ.ev s = some (.ref k off n)) (hob : lk σ.objs k = some ob) (het : ob.t = e) (hend : off + n = ob.xs.length)
    (hx : σ.ev x = some av) (hys : σ.rows ob.sz av = some ys) (hb : (n + ys.length) * eb ≤ 140737488355328) (heb : 0 < eb) (hid : id ∉ σ.ids) :
    CoreOk P o σ (.ref id 0 (n + ys.length), [(k, none), (id, some ⟨ob.t, ob.sz, ob.xs.drop off ++ ys⟩)]) := by
  intro B G w a hr K Q hK
  obtain ⟨_, _, d, _, _, h3, _, _, _, hkk⟩ := hT.i
  rw [hk] at hkk
  obtain ⟨rfl, j, y, hj1, hj2, hj3, hj4, hj5⟩ := hkk
  obtain ⟨hezl, hezo⟩ := hT.ezero _ _ _ _ hk
  subst het
  obtain ⟨ad2, m, c2, hxv, hm, had2, hrow, f, hf1, hf2⟩ := hr.rows (hr.ev hx) hys
  have hold : σ.rows ob.sz (.ref k off n) = some (ob.xs.drop off) := by
    simp only [AS.rows, hob]
    rw [if_pos ⟨trivial, by omega⟩, List.take_of_length_le (by simp; omega)]
  obtain ⟨ad, n', c, hsv, hn', had, hrow0, f0, hf01, hf02⟩ := hr.rows (hr.ev hs) hold
  have hnn : n' = n := by rw [hn']; simp; omega
  subst hnn
  subst hm
  have hsz : ∀ w, (sizeOf ob.t).run P w = .ok ob.sz w := fun w => size_of_info hj1 hj2
  have hneed : n' + ys.length ≤ 140737488355328 := by
    have : (n' + ys.length) * 1 ≤ (n' + ys.length) * eb := Nat.mul_le_mul_left _ heb
    omega
  have hrv := hr.ev hs
  rw [hsv] at hrv
  have hkid : k ≠ id := fun e => hid (by
    rw [← e]
    apply hr.ids
    cases hrv with
    | ref _ _ _ blk base cap sz _ hl => rw [hl]; simp)
  -- what the operation is
  have hop : ∀ v w', (Builtin.append_ #[t, t] o.type #[.slice ad n' c, .slice ad2 ys.length c2]).run P w = .ok v w' → (execOp a.eval o).run P w = .ok (.value v) w' := fun v w' h => by
    unfold execOp
    rw [ho]
    simp [resolve, invoke, builtin, hsv, hxv, h]
  unfold Oper.wp
  have hnews : ∀ x j u, ad2 = some x → ((List.range (ys.length * ob.sz)).map f)[j]? = some u → w.cell? (x.add j) = some u := fun x j u hx hu => by
    obtain ⟨h1, h2⟩ := range_get _ _ _ _ hu
    rw [hf1 x j hx h1, h2]
  have hone : ∀ u ∈ (List.range (ys.length * ob.sz)).map f, u.oneCell' = true := fun u hu => by
    simp only [List.mem_map, List.mem_range] at hu
    obtain ⟨q, hq, rfl⟩ := hu
    obtain ⟨i, c, hi, hc, rfl⟩ := dm_split hq
    exact (hf2 i c hi hc).1
  cases hrv with
  | ref _ _ _ blk base cap sz _ hl hle hcm hb' h0 =>
    obtain ⟨blk', ba, ca, g1, g2, g3, g4, g5⟩ := hr.heap.obj k ob hob
    rw [hl] at g1
    cases g1
    by_cases hroom : n' + ys.length ≤ cap - off
    · cases blk with
      | none =>
        have hc0 : cap = 0 := g5
        have hy0 : ys.length = 0 := by omega
        have hn0 : n' = 0 := by omega
        have hys0 : ys = [] := List.eq_nil_of_length_eq_zero hy0
        subst hys0
        have hd0 : ob.xs.drop off = [] := by rw [List.drop_eq_nil_iff]; omega
        obtain ⟨r1, r2⟩ := hr.addnil (k := k) hid (t := ob.t) (sz := ob.sz) (base := base)
        rw [hop _ _ (run_append_zero w t o.type ob.t j h3 hj1 ad ad2 n' (cap - off) c2 (by omega))]
        rw [hd0] at hK
        refine hK _ _ _ r1 r2 ?_
        subst hn0
        have := Rv.ref (G := G.add id (none, base, 0, ob.sz)) id 0 0 none base 0 ob.sz ad Gh.add_self (by omega) (by omega) (fun h => by omega) (fun _ => rfl)
        simpa [show cap - off = 0 by omega] using this
      | some b =>
        obtain ⟨vs, g6, g7, g8⟩ := g5
        have hcapm : (off + n' + ys.length) * ob.sz ≤ cap * ob.sz := Nat.mul_le_mul_right _ (by omega)
        rw [Nat.add_mul, Nat.add_mul] at hcapm
        by_cases hlt : off < cap
        · obtain ⟨b', e1, rfl⟩ := hb' hlt
          cases e1
          obtain ⟨r1, r2⟩ := hr.extend hid hob hl hend (m := ys.length) rfl (by omega) hrow hf2 g6
          rw [hop _ _ (run_append_roomAt (P := P) w t o.type ob.t j h3 hj1 b (base + off * ob.sz) n' (cap - off) ob.t vs g6 ad2 ys.length c2 ((List.range (ys.length * ob.sz)).map f) (by simp [hj2]) had2 hnews hone hroom (by rw [hj2]; simp; omega))]
          rw [hj2]
          refine hK _ _ _ r1 r2 ?_
          have := Rv.ref (G := G.add id (some b, base + off * ob.sz, cap - off, ob.sz)) id 0 (n' + ys.length) (some b) (base + off * ob.sz) (cap - off) ob.sz (some ⟨b, base + off * ob.sz, none⟩) Gh.add_self (by omega) (by omega) (fun _ => ⟨_, rfl, by simp⟩) (fun h => by cases h)
          simpa using this
        · have hy0 : ys.length = 0 := by omega
          have hys0 : ys = [] := List.eq_nil_of_length_eq_zero hy0
          have hn0 : n' = 0 := by omega
          subst hys0
          obtain ⟨r1, r2⟩ := hr.extend hid hob hl hend (m := 0) (ys := []) rfl (by omega) (fun i hi => by omega) (f := f) (fun i j hi => by omega) g6
          rw [hop _ _ (run_append_zero w t o.type ob.t j h3 hj1 ad ad2 n' (cap - off) c2 (by omega))]
          have hw : w.setRow b (spl vs.toList (base + off * ob.sz + n' * ob.sz) ((List.range (0 * ob.sz)).map f)).toArray = w := by
            simp only [Nat.zero_mul, List.range_zero, List.map_nil, spl, List.length_nil, Nat.add_zero, List.append_nil, List.take_append_drop]
            exact setRow_self w b vs ob.t (0, 0) g6
          rw [hw] at r2
          refine hK _ _ _ r1 r2 ?_
          subst hn0
          have := Rv.ref (G := G.add id (some b, base + off * ob.sz, cap - off, ob.sz)) id 0 0 (some b) (base + off * ob.sz) (cap - off) ob.sz ad Gh.add_self (by omega) (by omega) (fun h => by omega) (fun _ => by omega)
          simpa [show cap - off = 0 by omega] using this
    · have hypos : 0 < ys.length := by omega
      obtain ⟨x2, hx2⟩ := had2 hypos
      subst hx2
      have hlen : (ob.xs.drop off ++ ys).length = n' + ys.length := by rw [List.length_append, ← hn']
      have hrows : ∀ i, i < (ob.xs.drop off ++ ys).length → ((ob.xs.drop off ++ ys).getD i []).length = ob.sz := fun i hi => by
        rw [hlen] at hi
        by_cases hin : i < n'
        · have e1 : (ob.xs.drop off ++ ys).getD i [] = (ob.xs.drop off).getD i [] := by simp only [List.getD]; rw [List.getElem?_append_left (by omega)]
          rw [e1]; exact hrow0 i hin
        · have e1 : (ob.xs.drop off ++ ys).getD i [] = ys.getD (i - n') [] := by simp only [List.getD]; rw [List.getElem?_append_right (by omega)]; congr 2; omega
          rw [e1]; exact hrow _ (by omega)
      have hbj : (n' + ys.length) * j.bytes ≤ 140737488355328 := by rw [hj3]; exact hb
      have hcapg : ∀ old, grownCap w (n' + ys.length) old ob.t ≤ 9223372036854775807 := fun old => by
        have := grownCap_le_maxLen w (n' + ys.length) old ob.t (by rw [maxLen_eq]; omega)
        rw [maxLen_eq] at this; exact this
      have hge : ∀ old, n' + ys.length ≤ grownCap w (n' + ys.length) old ob.t := fun old => grownCap_ge w _ old ob.t
      have hzs : ∀ q, (Builtin.zeroCells y.cells q).size = q * ob.sz := fun q => by rw [size_zeroCells]; congr 1; rw [← hezl, ← hj5]; simp
      cases ad with
      | none =>
        have hcap0 : cap = off := h0 rfl
        have hn0 : n' = 0 := by omega
        subst hn0
        have e0 : cap - off = 0 := by omega
        rw [e0] at hop
        obtain ⟨r1, r2⟩ := hr.regrow (k := some k) (id := id) hid (fun e => hkid (by cases e; rfl)) (t := ob.t) (sz := ob.sz) (cap := grownCap w ys.length 0 ob.t) (xs := ob.xs.drop off ++ ys) (vs := ((List.range (0 * ob.sz)).map f0).toArray ++ ((List.range (ys.length * ob.sz)).map f).toArray ++ Builtin.zeroCells y.cells (grownCap w ys.length 0 ob.t - ys.length))
          (by rw [hlen]; have := hge 0; simpa using this) (by have := hcapg 0; simpa using this) (by
            have h1 := hge 0
            simp only [Nat.zero_add] at h1
            simp [hzs]
            rw [← Nat.add_mul]; exact Nat.mul_le_mul_right _ (by omega)) hrows (cat_val hn' rfl hf02 hf2) (w1 := w.drew) ⟨rfl, rfl, rfl, rfl⟩
        have hrun := run_append_nil (P := P) w t o.type ob.t j y h3 hj1 hj4 x2 ys.length c2 ((List.range (ys.length * ob.sz)).map f) (by simp [hj2]) (fun q u hq => hnews x2 q u rfl hq) hypos (by omega) (by simp only [Nat.zero_add] at hbj; omega)
        rw [hop _ _ hrun]
        rw [show ((List.range (0 * ob.sz)).map f0).toArray = #[] by simp, Array.empty_append] at r2
        refine hK _ _ _ r1 r2 ?_
        have hg2 := hge 0
        simp only [Nat.zero_add] at hg2
        have := Rv.ref (G := G.add id (some w.heap.size, 0, grownCap w ys.length 0 ob.t, ob.sz)) id 0 ys.length (some w.heap.size) 0 (grownCap w ys.length 0 ob.t) ob.sz (some ⟨w.heap.size, 0, none⟩) Gh.add_self (by omega) (by have := hcapg 0; simpa using this) (fun _ => ⟨_, rfl, by simp⟩) (fun h => by cases h)
        simpa using this
      | some x1 =>
        obtain ⟨r1, r2⟩ := hr.regrow (k := some k) (id := id) hid (fun e => hkid (by cases e; rfl)) (t := ob.t) (sz := ob.sz) (cap := grownCap w (n' + ys.length) (cap - off) ob.t) (xs := ob.xs.drop off ++ ys) (vs := ((List.range (n' * ob.sz)).map f0).toArray ++ ((List.range (ys.length * ob.sz)).map f).toArray ++ Builtin.zeroCells y.cells (grownCap w (n' + ys.length) (cap - off) ob.t - (n' + ys.length)))
          (by rw [hlen]; exact hge _) (hcapg _) (by
            have h1 := hge (cap - off)
            simp [hzs]
            rw [← Nat.add_mul, ← Nat.add_mul]; exact Nat.mul_le_mul_right _ (by omega)) hrows (cat_val hn' rfl hf02 hf2) (w1 := w.drew) ⟨rfl, rfl, rfl, rfl⟩
        have hrun := run_append_grow (P := P) w t o.type ob.t j y h3 hj1 hj4 x1 n' (cap - off) ((List.range (n' * ob.sz)).map f0) (by simp [hj2]) (fun q u hq => by
            obtain ⟨h1, h2⟩ := range_get _ _ _ _ hq
            rw [hf01 x1 q rfl h1, h2]) x2 ys.length c2 ((List.range (ys.length * ob.sz)).map f) (by simp [hj2]) (fun q u hq => hnews x2 q u rfl hq) (by omega) (by omega) (growslice_fits (by omega) hbj)
        rw [hop _ _ hrun]
        refine hK _ _ _ r1 r2 ?_
        have := Rv.ref (G := G.add id (some w.heap.size, 0, grownCap w (n' + ys.length) (cap - off) ob.t, ob.sz)) id 0 (n' + ys.length) (some w.heap.size) 0 (grownCap w (n' + ys.length) (cap - off) ob.t) ob.sz (some ⟨w.heap.size, 0, none⟩) Gh.add_self (by have := hge (cap - off); omega) (hcapg _) (fun _ => ⟨_, rfl, by simp⟩) (fun h => by cases h)
        simpa using this
end app
end Go.Proofs.Ytkollnaojpppcaa
