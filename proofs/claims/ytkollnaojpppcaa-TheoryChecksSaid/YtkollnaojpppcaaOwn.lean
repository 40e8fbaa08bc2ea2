/- Slices that a call itself makes and appends to, as lists: plain lemmas over any program; no condition. -/
import Derived.Test.YtkollnaojpppcaaLit2
namespace Go.Proofs.Ytkollnaojpppcaa
open Go.RowKit

/-- New memory, not shared with a string. -/
def Fresh (B : Nat) : Foot := fun b _ fz => B ≤ b ∧ fz = (0, 0)
/-- Footprint without one block. -/
def Off (F : Foot) (g : Option Nat) : Foot := fun b e fz => F b e fz ∧ g ≠ some b

section
variable {P : Program}

/-- Append to a slice of the call's own: where the new array lies. -/
theorem run_append_where (w : World) (base : Nat) (t ty e : TypeId) (i : TypeInfo) (z : Value) (size bytes : Nat) (ht : P.underlying t = some (.slice e)) (hi : P.info? e = some i) (hz : i.zero = some z)
    (hsize : i.size = size) (hby : i.bytes = bytes) (hzs : z.cells.size = size) (hsz : 0 < size)
    (v : Value) (n : Nat) (xs : List Value) (hown : w.ownsRow base e size v n xs)
    (a : Addr) (m c : Nat) (news : List Value) (hl : news.length = m * size) (hnews : ∀ j u, news[j]? = some u → w.cell? (a.add j) = some u) (h1 : ∀ u ∈ news, u.oneCell' = true)
    (h63 : n + m ≤ maxLen) (hbytes : (n + m) * bytes ≤ 140737488355328) (hbase : base ≤ w.heap.size) :
    ∃ v' w', (Builtin.append_ #[t, t] ty #[v, .slice (some a) m c]).run P w = .ok v' w' ∧ w'.ownsRow base e size v' (n + m) (xs ++ news) ∧ w.grownBy w' v.ownBlock ∧
      (∀ g, v'.ownBlock = some g → v.ownBlock = some g ∨ g = w.heap.size) ∧ w.heap.size ≤ w'.heap.size := by
  obtain ⟨v', w', hr, h2, h3, h4⟩ := run_append_own (P := P) w base t ty e i z size bytes ht hi hz hsize hby hzs hsz v n xs hown a m c news hl hnews h1 h63 hbytes hbase
  refine ⟨v', w', hr, h2, h3, ?_, h3.size⟩
  intro g hg
  subst hsize
  subst hby
  have hsmall : n + m ≤ 9223372036854775807 := by simp only [maxLen] at h63; omega
  rcases hown.2 with ⟨rfl, rfl⟩ | ⟨g0, cap, cur, rfl, hbg, hgg, hnc, hcm, hcs, htake⟩
  · have hb2 : base ≤ g := by
      have := h2.lt g hg
      exact this.1
    -- a nil slice: nothing lies in old blocks
    have hown2 : w.ownsRow w.heap.size e i.size (.slice none 0 0) 0 [] := World.ownsRow_nil w _ e _
    have hx : xs = [] := List.eq_nil_of_length_eq_zero (by simpa using hown.1)
    subst hx
    obtain ⟨v2, w2, hr2, h22, _, _⟩ := run_append_own (P := P) w w.heap.size t ty e i z i.size i.bytes ht hi hz rfl rfl hzs hsz _ 0 [] hown2 a m c news hl hnews h1 h63 hbytes (Nat.le_refl _)
    rw [hr] at hr2
    cases hr2
    right
    have h5 := h22.lt g hg
    rcases Nat.eq_zero_or_pos m with hm | hm
    · subst hm
      rcases h22.2 with ⟨e1, _⟩ | ⟨g', cap', cur', e1, _, hg', hn', _⟩
      · subst e1; simp [Value.ownBlock] at hg
      · have hnil := h4.2 ⟨rfl, rfl⟩
        subst hnil; simp [Value.ownBlock] at hg
    · have hr3 := run_append_nil (P := P) w t ty e i z ht hi hz a m c news hl hnews hm (by omega) (by have hb := hbytes; simp only [Nat.zero_add] at hb; omega)
      rw [hr] at hr3
      cases hr3
      simpa [Value.ownBlock] using hg.symm
  · by_cases hroom : n + m ≤ cap
    · have hfit : n * i.size + news.length ≤ cur.size := by rw [hl, hcs, ← Nat.add_mul]; exact Nat.mul_le_mul_right _ hroom
      have hr3 := run_append_room (P := P) w t ty e i ht hi g0 n cap cur hgg a m c news hl hnews h1 hroom hfit
      rw [hr] at hr3
      cases hr3
      left
      simpa [Value.ownBlock] using hg
    · have holds : ∀ j u, xs[j]? = some u → w.cell? ((⟨g0, 0, none⟩ : Addr).add j) = some u := hown.cells (g := g0) rfl
      have hr3 := run_append_grow (P := P) w t ty e i z ht hi hz ⟨g0, 0, none⟩ n cap xs hown.1 holds a m c news hl hnews (by omega) (by omega) (growslice_fits (by omega) hbytes)
      rw [hr] at hr3
      cases hr3
      right
      simpa [Value.ownBlock] using hg.symm
end

/-- A slice of the call's own that reads as a list. -/
def OwnL {α : Type} (E : Enc α) (F : Foot) (w : World) (B : Nat) (t : TypeId) (v : Value) (xs : List α) : Prop :=
  ∃ raw : List (List Value), w.ownsRow B t E.size v xs.length raw.flatten ∧ raw.length = xs.length ∧ ∀ (i : Nat) (h1 : i < xs.length) (h2 : i < raw.length), E.rep (Off F v.ownBlock) w xs[i] raw[i]

theorem OwnL.nil {α : Type} (E : Enc α) (F : Foot) (w : World) (B : Nat) (t : TypeId) : OwnL E F w B t (.slice none 0 0) [] :=
  ⟨[], by simpa using World.ownsRow_nil w B t E.size, rfl, fun i h => by simp at h⟩

theorem OwnL.lt {α : Type} {E : Enc α} {F : Foot} {w : World} {B : Nat} {t : TypeId} {v : Value} {xs : List α} (h : OwnL E F w B t v xs) {g : Nat} (hg : v.ownBlock = some g) : B ≤ g ∧ g < w.heap.size := by
  obtain ⟨raw, h1, _⟩ := h
  exact h1.lt g hg

/-- It stays while blocks other than its own change, if what it holds stays. -/
theorem OwnL.grown {α : Type} {E : Enc α} {F : Foot} {w w' : World} {B : Nat} {t : TypeId} {v : Value} {xs : List α} (h : OwnL E F w B t v xs) {row : Option Nat} (hg : w.grownBy w' row) (hne : v.ownBlock = none ∨ v.ownBlock ≠ row)
    (hF : ∀ b e fz, b < w.heap.size → F b e fz → v.ownBlock ≠ some b → row ≠ some b) : OwnL E F w' B t v xs := by
  obtain ⟨raw, h1, h2, h3⟩ := h
  refine ⟨raw, h1.kept hg hne, h2, fun i hi hi2 => ?_⟩
  have h4 := E.weak (h3 i hi hi2) (F' := fun b e fz => (Off F v.ownBlock b e fz) ∧ row ≠ some b ∧ b < w.heap.size) (fun b e fz hl hf => ⟨hf, hF b e fz hl hf.1 hf.2, hl⟩)
  have h5 := E.mono h4 (w' := w') (fun b c e fz hh hf => by rw [hg.block b hf.2.2 (fun e => hf.2.1 e.symm)]; exact hh)
  exact E.weak h5 (fun b e fz _ hf => hf.1)

theorem OwnL.below {α : Type} {E : Enc α} {F : Foot} {w w' : World} {B : Nat} {t : TypeId} {v : Value} {xs : List α} (h : OwnL E F w B t v xs) (hb : Below w.heap.size w w') : OwnL E F w' B t v xs :=
  h.grown (row := none) ⟨hb.os, hb.tape, hb.output, hb.size, fun k hk _ => hb.block k hk⟩ (by cases v.ownBlock <;> simp) (fun _ _ _ _ _ _ => by simp)

theorem grownBy_of_alloc {w w' : World} {o : Obj} {row : Option Nat} (hg : (w.alloc o).grownBy w' row) : w.grownBy w' row :=
  ⟨hg.os, hg.tape, hg.output, by have := hg.size; simp at this; omega, fun k hk hne => by rw [hg.block k (by simp; omega) hne, Below.heap_alloc _ _ _ hk]⟩

/-- What is read outside the row that was written stays. -/
theorem Enc.grown {α : Type} (E : Enc α) {F : Foot} {w w' : World} {x : α} {cs : List Value} {row : Option Nat} (h : E.rep (Off F row) w x cs) (hg : w.grownBy w' row) : E.rep (Off F row) w' x cs := by
  have h1 := E.lows h
  have h2 := E.mono h1 (w' := w') (fun b c e fz hh hf => by rw [hg.block b hf.2 (fun e => hf.1.2 e.symm)]; exact hh)
  exact E.weak h2 (fun b e fz _ hf => hf.1)

/-- It is no nil slice. -/
def SliceOf (v : Value) (n : Nat) : Prop := ∃ g c, v = .slice (some ⟨g, 0, none⟩) n c

/-- One element more. -/
theorem wpList_push {α : Type} {P : Program} {ops : Array Oper} {rest : List Oper} {o : Oper} {a : Act} {Q : Exit → Act → World → Prop} (w : World) (hgd : o.guard = none) (s x : Operand) (t e : TypeId)
    (ho : o.op = .call { callee := .builtin .append, args := #[s, x], argTypes := #[t, t] })
    (E : Enc α) (i : TypeInfo) (z : Value) (bytes : Nat) (ht : P.underlying t = some (.slice e)) (hi : P.info? e = some i) (hz : i.zero = some z)
    (hsize : i.size = E.size) (hby : i.bytes = bytes) (hzs : z.cells.size = E.size) (hsz : 0 < E.size)
    {F : Foot} {B : Nat} {v : Value} {xs : List α} (hs : a.eval s = v) (hown : OwnL E F w B e v xs)
    (y : α) (cs : List Value) (hy : E.rep (Off F v.ownBlock) w y cs) (h1 : ∀ u ∈ cs, u.oneCell' = true)
    (hx : a.eval x = .slice (some ⟨w.heap.size, 0, none⟩) 1 1)
    (hbytes : (xs.length + 1) * bytes ≤ 140737488355328) (hb8 : 0 < bytes) (hbase : B ≤ w.heap.size)
    (h : ∀ v' w', OwnL E F w' B e v' (xs ++ [y]) → w.grownBy w' v.ownBlock → SliceOf v' (xs.length + 1) → wpList P ops Q rest (a.put o.dst v') w') :
    wpList P ops Q (o :: rest) a (w.alloc (.cells cs.toArray e)) := by
  obtain ⟨raw, g1, g2, g3⟩ := hown
  have hcl := E.len hy
  have hlen63 : xs.length + 1 ≤ maxLen := by
    have : (xs.length + 1) * 1 ≤ (xs.length + 1) * bytes := Nat.mul_le_mul_left _ hb8
    simp only [maxLen]; omega
  obtain ⟨v', w', hr, h2, h3, h4, h5⟩ := run_append_where (P := P) (w.alloc (.cells cs.toArray e)) B t o.type e i z E.size bytes ht hi hz hsize hby hzs hsz v xs.length raw.flatten (g1.alloc _)
    ⟨w.heap.size, 0, none⟩ 1 1 cs (by rw [hcl]; simp) (fun j u hu => by
      rw [Addr.add_lit, World.cell?_alloc_at _ _ _ _ rfl]
      simpa using hu) h1 hlen63 hbytes (by simp; omega)
  refine wpList_plain hgd fun K hK => ?_
  unfold Oper.wp execOp
  simp only [ho, resolve, invoke, builtin, Sem.run_bind, Sem.run_pure, Result.andThen_ok, List.map_toArray, List.map_cons, List.map_nil, hs, hx, hr]
  have hgw : w.grownBy w' v.ownBlock := grownBy_of_alloc h3
  refine hK _ _ (h v' w' ⟨raw ++ [cs], ?_, by simp [g2], ?_⟩ hgw ?_)
  · simpa using h2
  · intro k hk1 hk2
    have hfr : ∀ b, b < w.heap.size → v.ownBlock ≠ some b → v'.ownBlock ≠ some b := fun b hb hne e => by
      rcases h4 b e with h | h
      · exact hne h
      · simp at h; omega
    have fin : ∀ (u : α) (us : List Value), E.rep (Off F v.ownBlock) w u us → E.rep (Off F v'.ownBlock) w' u us := fun u us hu => by
      have := E.lows hu
      have := E.mono this (w' := w') (fun b c e fz hh hf => by rw [hgw.block b hf.2 (fun e => hf.1.2 e.symm)]; exact hh)
      exact E.weak this (fun b e fz _ hf => ⟨hf.1.1, hfr b hf.2 hf.1.2⟩)
    by_cases hk : k < xs.length
    · rw [List.getElem_append_left hk, List.getElem_append_left (by omega)]
      exact fin _ _ (g3 k hk (by omega))
    · have hk' : k = xs.length := by simp at hk1; omega
      subst hk'
      have e1 : (xs ++ [y])[xs.length] = y := by simp
      have e2 : (raw ++ [cs])[xs.length]'hk2 = cs := by simp [← g2]
      rw [e1, e2]
      exact fin _ _ hy
  · rcases h2.2 with ⟨_, e0⟩ | ⟨g, cap, cur, e0, _⟩
    · omega
    · exact ⟨g, cap, e0⟩

/-- It reads as its list. -/
theorem OwnL.reads {α : Type} {E : Enc α} {F : Foot} {w : World} {B : Nat} {t : TypeId} {v : Value} {xs : List α} (h : OwnL E F w B t v xs) (hl : xs.length * E.bytes ≤ 140737488355328) (F' : Foot)
    (h1 : ∀ b e fz, F b e fz → F' b e fz) (h2 : ∀ b e, B ≤ b → F' b e (0, 0)) : (eList E).rep F' w xs [v] := by
  obtain ⟨raw, g1, g2, g3⟩ := h
  rcases g1.2 with ⟨rfl, h0⟩ | ⟨g, cap, cur, rfl, hb, hg, hn, hm, hs, ht⟩
  · exact ⟨none, 0, 0, rfl, h0.symm, Nat.le_refl _, by simp, fun _ => rfl, fun i hi => by omega⟩
  · refine ⟨some ⟨g, 0, none⟩, xs.length, cap, rfl, rfl, hn, hl, fun h => (by cases h), fun i hi => ⟨g, 0, raw[i]'(by omega), rfl, E.len (g3 i hi (by omega)), fun j hj => ?_, E.weak (g3 i hi (by omega)) (fun b e fz _ hf => h1 b e fz hf.1)⟩⟩
    refine ⟨cur, t, (0, 0), hg, ?_, h2 g t hb⟩
    have hall : ∀ r ∈ raw, r.length = E.size := fun r hr => by
      obtain ⟨k, hk, rfl⟩ := List.mem_iff_getElem.1 hr
      exact E.len (g3 k (by omega) hk)
    have hj' : j < E.size := by rw [E.len (g3 i hi (by omega))] at hj; exact hj
    have e1 : (raw.flatten)[i * E.size + j]? = some ((raw[i]'(by omega))[j]) := flat_get raw E.size hall i (by omega) j hj hj'
    rw [← ht, List.getElem?_take] at e1
    split at e1
    · simpa using e1
    · cases e1
where
  flat_get : ∀ (raw : List (List Value)) (s : Nat), (∀ r ∈ raw, r.length = s) → ∀ (i : Nat) (hi : i < raw.length) (j : Nat) (hj : j < raw[i].length), j < s → raw.flatten[i * s + j]? = some (raw[i][j])
    | [], _, _, i, hi, _, _, _ => by simp at hi
    | r :: rs, s, h, 0, _, j, hj, hs => by
      simp only [Nat.zero_mul, Nat.zero_add, List.flatten_cons, List.getElem_cons_zero] at hj ⊢
      rw [List.getElem?_append_left hj, List.getElem?_eq_getElem hj]
    | r :: rs, s, h, i + 1, hi, j, hj, hs => by
      have hr : r.length = s := h r (by simp)
      simp only [List.flatten_cons, List.getElem_cons_succ] at hj ⊢
      rw [List.getElem?_append_right (by rw [hr, Nat.add_mul]; omega)]
      have := flat_get rs s (fun r hr => h r (by simp [hr])) i (by simpa using hi) j hj hs
      rw [← this]
      congr 1
      rw [hr, Nat.add_mul]; omega

theorem World.eRep_int {F : Foot} {w : World} {x : Int} (h : I64 x) : eInt.rep F w x [.int .i64 x] := ⟨rfl, h⟩
end Go.Proofs.Ytkollnaojpppcaa
