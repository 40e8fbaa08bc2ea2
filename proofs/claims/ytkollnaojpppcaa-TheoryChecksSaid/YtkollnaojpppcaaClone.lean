/- Contracts of slices.Clone, slices.Compact at ints; appending a slice of ints to one of the call's own; no condition. -/
import Derived.Test.YtkollnaojpppcaaRest
import Derived.Laws.AppendOwnNone
namespace Go.Proofs.Ytkollnaojpppcaa
open Go.RowKit

theorem flat_ints (xs : List Int) : (xs.map fun y => [Value.int IntKind.i64 y]).flatten = xs.map (Value.int .i64) := by
  induction xs with
  | nil => rfl
  | cons x r ih => simp [ih]

/-- A slice of ints of the call's own, as a row. -/
theorem OwnL.int_iff {F : Foot} {w : World} {B : Nat} {t : TypeId} {v : Value} {xs : List Int} :
    OwnL eInt F w B t v xs ↔ w.ownsRow B t 1 v xs.length (xs.map (Value.int .i64)) ∧ ∀ y ∈ xs, I64 y := by
  constructor
  · rintro ⟨raw, g1, g2, g3⟩
    have e : raw = xs.map fun y => [Value.int IntKind.i64 y] := by
      apply List.ext_getElem (by simp [g2])
      intro i h1 h2
      have := (g3 i (by omega) h1).1
      rw [this]; simp
    subst e
    rw [flat_ints] at g1
    refine ⟨g1, fun y hy => ?_⟩
    obtain ⟨k, hk, rfl⟩ := List.mem_iff_getElem.1 hy
    exact (g3 k hk (by simpa using hk)).2
  · rintro ⟨h1, h2⟩
    refine ⟨xs.map fun y => [Value.int IntKind.i64 y], by rw [flat_ints]; exact h1, by simp, fun i h3 h4 => ⟨by simp, h2 _ (List.getElem_mem h3)⟩⟩

theorem Ints.nilcap {F : Foot} {w : World} {a : Option Addr} {n c : Nat} {xs : List Int} (h : Ints F w (.slice a n c) xs) : a = none → n = 0 ∧ c = 0 := by
  obtain ⟨a', n', c', h1, h2, h3, h4, h0, h5⟩ := h
  simp only [List.cons.injEq, and_true, Value.slice.injEq] at h1
  obtain ⟨rfl, rfl, rfl⟩ := h1
  intro e
  have := h0 e
  omega

/-- All elements of another slice behind it. -/
theorem wpList_pushInts {P : Program} {ops : Array Oper} {rest : List Oper} {o : Oper} {a : Act} {Q : Exit → Act → World → Prop} (w : World) (hgd : o.guard = none) (s x : Operand) (t e : TypeId)
    (ho : o.op = .call { callee := .builtin .append, args := #[s, x], argTypes := #[t, t] })
    (i : TypeInfo) (ht : P.underlying t = some (.slice e)) (hi : P.info? e = some i) (hz : i.zero = some (.int .i64 0)) (hsize : i.size = 1) (hby : i.bytes = 8)
    {F G : Foot} {B : Nat} {v : Value} {xs ys : List Int} (hs : a.eval s = v) (hown : OwnL eInt F w B e v xs)
    (b : Option Addr) (m c : Nat) (hy : Ints G w (.slice b m c) ys) (hx : a.eval x = .slice b m c)
    (hbytes : (xs.length + m) * 8 ≤ 140737488355328) (hbase : B ≤ w.heap.size)
    (h : ∀ v' w', OwnL eInt F w' B e v' (xs ++ ys) → w.grownBy w' v.ownBlock → wpList P ops Q rest (a.put o.dst v') w') :
    wpList P ops Q (o :: rest) a w := by
  obtain ⟨g1, g2⟩ := OwnL.int_iff.1 hown
  obtain ⟨a', n', c', he, hn, _, _, hc⟩ := hy.open
  cases he
  cases b with
  | none =>
    obtain ⟨rfl, rfl⟩ := hy.nilcap rfl
    have : ys = [] := List.eq_nil_of_length_eq_zero hn.symm
    subst this
    refine wpList_append_own_none hgd s x t ho B e i 1 ht hi v xs.length _ hs g1 hx (h v w (by simpa using hown) (World.grownBy.refl _ _))
  | some ad =>
    have hlen63 : xs.length + m ≤ maxLen := by simp only [maxLen]; omega
    have hys : ∀ y ∈ ys, I64 y := Ints.range hy
    obtain ⟨v', w', hr, h2, h3, h4, h5⟩ := run_append_where (P := P) w B t o.type e i (.int .i64 0) 1 8 ht hi hz hsize hby rfl (by decide) v xs.length _ g1 ad m c (ys.map (Value.int .i64)) (by simp [hn]) (fun j u hu => by
      have hj : j < m := by
        have := (List.getElem?_eq_some_iff.1 hu).1
        simp at this; omega
      obtain ⟨b2, o2, e1, h6, _⟩ := hc j hj
      cases e1
      rw [Addr.add_lit, h6]
      rw [List.getElem?_map] at hu
      have e2 : ys[j]? = some (ys.getD j 0) := by simp [List.getD, show j < ys.length by omega]
      rw [e2] at hu
      simpa using hu) (ints_oneCell _ _) hlen63 hbytes hbase
    refine wpList_plain hgd fun K hK => ?_
    unfold Oper.wp execOp
    simp only [ho, resolve, invoke, builtin, Sem.run_bind, Sem.run_pure, Result.andThen_ok, List.map_toArray, List.map_cons, List.map_nil, hs, hx, hr]
    refine hK _ _ (h v' w' (OwnL.int_iff.2 ⟨?_, ?_⟩) h3)
    · simpa [hn] using h2
    · intro y hy'
      rcases List.mem_append.1 hy' with h | h
      · exact g2 y h
      · exact hys y h

/-- It returns a slice of its own that holds this. -/
def GivesOwn (w : World) (r : List Int) (e : Ending) (w' : World) : Prop := ∃ v, e = .returned v ∧ OwnL eInt (Fresh 0) w' w.heap.size 3 v r ∧ Below w.heap.size w w'

set_option maxHeartbeats 1000000 in
theorem clone_c {F : Foot} {w : World} {v : Value} {xs : List Int} (h : Ints F w v xs) :
    Calls Try.prog 58 #[v] w (GivesOwn w xs) := by
  obtain ⟨i0, hi, hz0, hz1, hz2⟩ := info_parts infoInt
  have hnil := fun (W : World) a n c => Lib.run_eql_slice_nil (P := Try.prog) W 38 3 a n c 0 0 Try.underlying38
  obtain ⟨a, n, c, rfl, hn, hnc, hm, _⟩ := h.open
  unfold LenMax at hm
  have hz := h.nilcap
  cases a with
  | none =>
    obtain ⟨rfl, rfl⟩ := hz rfl
    have : xs = [] := List.eq_nil_of_length_eq_zero hn.symm
    subst this
    clear h hn hm hz
    go_enter Try.func58, Try.ntmps58
    go_wp2
    go_ret
    exact ⟨_, rfl, OwnL.nil _ _ _ _ _, below0 _⟩
  | some ad =>
    have h1 : Ints F (w.alloc (.cells #[] 3)) (.slice (some ad) n c) xs := Enc.below _ h (below1 _ _)
    have hown : OwnL eInt (Fresh 0) (w.alloc (.cells #[] 3)) w.heap.size 3 (.slice (some ⟨w.heap.size, 0, none⟩) 0 0) [] := OwnL.int_iff.2 ⟨⟨by simp, .inr ⟨w.heap.size, 0, #[], rfl, Nat.le_refl _, heap_alloc_new w _, Nat.le_refl _, by simp [maxLen], by simp, by simp⟩⟩, by simp⟩
    have H1 := Lib.hid h1
    have HO := Lib.hid hown
    clear h h1 hown hz hn
    go_enter Try.func58, Try.ntmps58
    go_wp2_with (at_builtin; refine wpList_pushInts _ rfl _ _ 38 3 rfl i0 Try.underlying38 hi hz0 hz1 hz2 rfl HO.out _ _ _ H1.out rfl (by simp; omega) (by simp) ?_)
    intro v' w1 hown1 hgrow1
    have hb1 : Below w.heap.size w w1 := (below1 w _).grown hgrow1 (by simp) (fun k hk => by simp [Value.ownBlock] at hk; omega)
    go_wp2
    go_ret
    exact ⟨_, rfl, by simpa using hown1, hb1⟩
end Go.Proofs.Ytkollnaojpppcaa
