/- An abstract machine for the text, part eight: append; plain lemmas over any program; no condition. -/
import Derived.Test.YtkollnaojpppcaaAm7
namespace Go.Proofs.Ytkollnaojpppcaa
open Go.RowKit

/-- The elements of a slice. -/
def AS.rows (σ : AS) (sz : Nat) : AV → Option (List (List AV))
  | .sl s xs => if s = sz then some xs else none
  | .ref k off n => match lk σ.objs k with
    | some ob => if ob.sz = sz ∧ off + n ≤ ob.xs.length then some ((ob.xs.drop off).take n) else none
    | none => none
  | .v (.slice none 0 0) => some []
  | _ => none

section app
variable {P : Program} {σ : AS} {B : Base} {G : Gh} {w : World} {a : Act}

theorem R.rows (hr : R B G σ w a) {av : AV} {v : Value} (hv : Rv G av v) {sz : Nat} {ys : List (List AV)} (h : σ.rows sz av = some ys) :
    ∃ ad m c, v = .slice ad m c ∧ m = ys.length ∧ (0 < m → ∃ x, ad = some x) ∧ (∀ i, i < m → (ys.getD i []).length = sz) ∧ ∃ f : Nat → Value, (∀ x q, ad = some x → q < m * sz → w.cell? (x.add q) = some (f q)) ∧
      ∀ i j, i < m → j < sz → (f (i * sz + j)).oneCell' = true ∧ Rv G ((ys.getD i []).getD j .any) (f (i * sz + j)) := by
  have hdm : ∀ i j, j < sz → (i * sz + j) / sz = i ∧ (i * sz + j) % sz = j := fun i j hj => by
    have h0 : 0 < sz := by omega
    constructor
    · rw [Nat.add_comm, Nat.add_mul_div_right _ _ h0, Nat.div_eq_of_lt hj, Nat.zero_add]
    · rw [Nat.add_comm, Nat.add_mul_mod_self_right, Nat.mod_eq_of_lt hj]
  unfold AS.rows at h
  split at h
  · rename_i s xs
    split at h
    · rename_i e; subst e
      cases h
      cases hv with
      | sl _ _ ad n c us hn hc hm h0 hz ha h1 hh =>
        subst hn
        refine ⟨ad, _, c, rfl, rfl, fun hp => let ⟨b, o, e, _⟩ := ha hp; ⟨_, e⟩, hz, fun q => us (q / s) (q % s), fun x q hx hq => ?_, fun i j hi hj => ?_⟩
        · have hsz : 0 < s := by
            rcases Nat.eq_zero_or_pos s with h | h
            · subst h; simp at hq
            · exact h
          have hxl : 0 < ys.length := by
            rcases Nat.eq_zero_or_pos ys.length with h | h
            · rw [h] at hq; simp at hq
            · exact h
          obtain ⟨b, o, e, hs⟩ := ha hxl
          rw [hx] at e
          cases e
          have hq1 : q / s < ys.length := (Nat.div_lt_iff_lt_mul hsz).2 hq
          have := hr.heap.st _ _ _ (hs (q / s) (q % s) hq1 (Nat.mod_lt _ hsz))
          rw [Addr.add_lit, ← this]
          congr 2
          have := Nat.div_add_mod q s
          rw [Nat.mul_comm] at this
          omega
        · obtain ⟨e1, e2⟩ := hdm i j hj
          simp only [e1, e2]
          exact ⟨h1 i j hi hj, hh i j hi hj⟩
    · cases h
  · rename_i k off n
    split at h
    · rename_i ob hk
      split at h
      · rename_i hc
        obtain ⟨rfl, hc⟩ := hc
        cases h
        cases hv with
        | ref _ _ _ blk base cap sz ad hl hle hm hb h0 =>
          have hlen : ((ob.xs.drop off).take n).length = n := by simp; omega
          have hob := hr.heap.obj k ob hk
          obtain ⟨blk', ba, ca, g1, g2, g3, g4, g5⟩ := hob
          rw [hl] at g1
          cases g1
          have hrow : ∀ i, i < n → ((ob.xs.drop off).take n).getD i [] = ob.xs.getD (off + i) [] := fun i hi => by simp [List.getD, List.getElem?_take, hi, List.getElem?_drop]
          refine ⟨ad, n, cap - off, rfl, hlen.symm, fun hp => ?_, fun i hi => by rw [hrow i hi]; exact g4 _ (by omega), fun q => (w.cell? ⟨blk.getD 0, base + off * ob.sz + q, none⟩).getD undef, fun x q hx hq => ?_, fun i j hi hj => ?_⟩
          · obtain ⟨b, _, e⟩ := hb (by omega); exact ⟨_, e⟩
          · have hn0 : 0 < n := by
              rcases Nat.eq_zero_or_pos n with h | h
              · subst h; simp at hq
              · exact h
            have hsz : 0 < ob.sz := by
              rcases Nat.eq_zero_or_pos ob.sz with h | h
              · rw [h] at hq; simp at hq
              · exact h
            obtain ⟨b, rfl, e⟩ := hb (by omega)
            rw [hx] at e
            cases e
            have hq1 : q / ob.sz < n := (Nat.div_lt_iff_lt_mul hsz).2 hq
            obtain ⟨_, u, c1, _⟩ := hr.cellsOf hk hl (e := off + q / ob.sz) (j := q % ob.sz) (by omega) (Nat.mod_lt _ hsz)
            have e2 : base + off * ob.sz + q = base + ((off + q / ob.sz) * ob.sz + q % ob.sz) := by
              have := Nat.div_add_mod q ob.sz
              rw [Nat.mul_comm] at this
              rw [Nat.add_mul]; omega
            simp only [Addr.add_lit, Option.getD_some, e2, c1]
          · obtain ⟨b, rfl, e⟩ := hb (by omega)
            obtain ⟨_, u, c1, _, c2, c3⟩ := hr.cellsOf hk hl (e := off + i) (j := j) (by omega) hj
            have e2 : base + off * ob.sz + (i * ob.sz + j) = base + ((off + i) * ob.sz + j) := by rw [Nat.add_mul]; omega
            simp only [hrow i hi, Option.getD_some, e2, c1]
            exact ⟨c2, c3⟩
      · cases h
    · cases h
  · cases h
    cases hv
    exact ⟨none, 0, 0, rfl, rfl, fun h => by omega, fun i hi => by omega, fun _ => undef, fun x q hx => (by cases hx), fun i j hi => (by omega)⟩
  · cases h

/-- Cells as a list. -/
theorem range_get (f : Nat → Value) (n j : Nat) (u : Value) (h : ((List.range n).map f)[j]? = some u) : j < n ∧ f j = u := by
  simp only [List.getElem?_map, Option.map_eq_some_iff] at h
  obtain ⟨x, h1, h2⟩ := h
  obtain ⟨h3, h4⟩ := List.getElem?_eq_some_iff.1 h1
  simp at h3 h4
  subst h4
  exact ⟨h3, h2⟩

theorem updI_mem (k : Nat) : ∀ (u : List (Nat × Option AObj)) (ids : List Nat), k ∈ updI ids u ↔ k ∈ u.map (·.1) ∨ k ∈ ids
  | [], ids => by simp [updI]
  | (q, x) :: u, ids => by
    simp only [updI]
    rw [updI_mem k u]
    simp only [List.map_cons, List.mem_cons]
    split
    · rename_i h
      constructor
      · rintro (h1 | h1)
        · exact .inl (.inr h1)
        · exact .inr h1
      · rintro ((rfl | h1) | h1)
        · exact .inr h
        · exact .inl h1
        · exact .inr h1
    · simp only [List.mem_cons]
      constructor
      · rintro (h1 | h1 | h1)
        · exact .inl (.inr h1)
        · exact .inl (.inl h1)
        · exact .inr h1
      · rintro ((h1 | h1) | h1)
        · exact .inr (.inl h1)
        · exact .inl h1
        · exact .inr (.inr h1)
/-- An array that grows into a new block. -/
theorem R.regrow (hr : R B G σ w a) {k : Option Nat} {id : Nat} (hid : id ∉ σ.ids) (hkid : k ≠ some id) {t : TypeId} {sz cap : Nat} {xs : List (List AV)} {vs : Array Value} (hcap : xs.length ≤ cap) (hmax : cap ≤ 9223372036854775807) (hsz : cap * sz ≤ vs.size) (hlen : ∀ i, i < xs.length → (xs.getD i []).length = sz)
    (hval : ∀ i j, i < xs.length → j < sz → (vs.getD (i * sz + j) undef).oneCell' = true ∧ Rv G ((xs.getD i []).getD j .any) (vs.getD (i * sz + j) undef)) {w1 : World} (hw : w1.heap = w.heap ∧ w1.os = w.os ∧ w1.tape = w.tape ∧ w1.output = w.output) :
    G.le (G.add id (some w.heap.size, 0, cap, sz)) ∧ R B (G.add id (some w.heap.size, 0, cap, sz)) (σ.upd ((k.toList.map fun k => (k, none)) ++ [(id, some ⟨t, sz, xs⟩)])) (w1.alloc (.cells vs t)) a := by
  obtain ⟨h1, h2⟩ := hr.new (t := t) hid hcap hmax hsz hlen hval hw
  refine ⟨h1, ?_⟩
  cases k with
  | none => simpa using h2
  | some k =>
    have hki : k ≠ id := fun e => hkid (by rw [e])
    refine ⟨h2.n, h2.slot, h2.defers, ?_, fun q hq => ?_⟩
    · have hh := h2.heap
      have hsub : ∀ q ob, lk (σ.upd ([(k, none)] ++ [(id, some ⟨t, sz, xs⟩)])).objs q = some ob → lk (σ.upd [(id, some ⟨t, sz, xs⟩)]).objs q = some ob := fun q ob hq => by
        simp only [AS.upd, List.singleton_append, updO, lk_st, lk_dl] at hq ⊢
        split at hq
        · rename_i e; rw [if_pos e]; exact hq
        · rename_i e
          rw [if_neg e]
          split at hq
          · cases hq
          · exact hq
      exact ⟨hh.os, hh.tape, hh.output, hh.size, hh.old, fun q ob hq => hh.obj q ob (hsub q ob hq), fun q ob hq => hh.own q ob (hsub q ob hq), fun q q' ob ob' hq hq' => hh.inj q q' ob ob' (hsub _ _ hq) (hsub _ _ hq'), hh.st, fun q ob hq => hh.sep q ob (hsub _ _ hq), hh.fresh, hh.keep, hh.fix, hh.pin, hh.base⟩
    · have := h2.ids q hq
      rw [AS.upd, updI_mem] at this ⊢
      simp at this ⊢
      rcases this with h | h
      · exact .inl (.inr h)
      · exact .inr h
end app

/-- Append where there is room, from the middle of a block on. -/
theorem run_append_roomAt {P : Program} (w : World) (t ty e : TypeId) (i : TypeInfo) (ht : P.underlying t = some (.slice e)) (hi : P.info? e = some i)
    (g p sLen sCap : Nat) (tb : TypeId) (cur : Array Value) (hg : w.heap[g]? = some (.cells cur tb (0, 0)))
    (ad : Option Addr) (m c : Nat) (news : List Value) (hl : news.length = m * i.size) (had : 0 < m → ∃ x, ad = some x) (hnews : ∀ x j u, ad = some x → news[j]? = some u → w.cell? (x.add j) = some u) (h1 : ∀ u ∈ news, u.oneCell' = true)
    (hroom : sLen + m ≤ sCap) (hfit : p + sLen * i.size + news.length ≤ cur.size) :
    (Builtin.append_ #[t, t] ty #[.slice (some ⟨g, p, none⟩) sLen sCap, .slice ad m c]).run P w =
      .ok (.slice (some ⟨g, p, none⟩) (sLen + m) sCap) (w.setRow g (spl cur.toList (p + sLen * i.size) news).toArray) := by
  have hst := run_storeCells_at P g (p + sLen * i.size) tb news 0 cur w hg (by simpa using hfit) h1
  simp only [Nat.add_zero] at hst
  cases ad with
  | some x =>
    have hf := run_firstCells_some (P := P) w i.size m x m c news hl (fun j u hj => hnews x j u rfl hj)
    simp [Builtin.append_, run_underlying ht, sizeOf, typeInfo, hi, Builtin.lenOf, hroom, hf, Addr.add_lit, hst, spl]
  | none =>
    have hm : m = 0 := by
      rcases Nat.eq_zero_or_pos m with h | h
      · exact h
      · obtain ⟨x, hx⟩ := had h; cases hx
    subst hm
    have hn : news = [] := List.eq_nil_of_length_eq_zero (by simpa using hl)
    subst hn
    have hf := run_firstCells_none (P := P) w i.size 0 0 c
    simp [Builtin.append_, run_underlying ht, sizeOf, typeInfo, hi, Builtin.lenOf, show sLen ≤ sCap by omega, Builtin.firstCells, Addr.add_lit, hst, spl]
/-- Append of nothing to a slice without an array. -/
theorem run_append_none {P : Program} (w : World) (t ty e : TypeId) (i : TypeInfo) (ht : P.underlying t = some (.slice e)) (hi : P.info? e = some i) (ad ad2 : Option Addr) (c2 : Nat) (had : ad2 = none ∨ True) :
    (Builtin.append_ #[t, t] ty #[.slice none 0 0, .slice ad2 0 c2]).run P w = .ok (.slice none 0 0) w := by
  cases ad2 with
  | some x => simp [Builtin.append_, run_underlying ht, sizeOf, typeInfo, hi, Builtin.lenOf, Builtin.firstCells, loadCells, loadCellsFrom]
  | none => simp [Builtin.append_, run_underlying ht, sizeOf, typeInfo, hi, Builtin.lenOf, Builtin.firstCells]
end Go.Proofs.Ytkollnaojpppcaa
