/- The types of arguments: numbers, lists, rows, sets, theories; no condition. -/
import Derived.Test.YtkollnaojpppcaaLift
import Derived.Test.YtkollnaojpppcaaCv
namespace Go.Proofs.Ytkollnaojpppcaa
open Go.RowKit Go.WideShapes Go.ChangeShapes Go.ChangeAt

set_option maxRecDepth 100000
/-- Numbers of 64 bits, lists that memory bears. -/
def okIL (xs : List Int) : Bool := xs.all okI && decide (xs.length ≤ 9223372036854775807)
def okLens (L : List (List Int)) : Bool := L.all okIL && decide (L.length ≤ 9223372036854775807)
theorem okIL_len {xs : List Int} (h : okIL xs = true) : xs.length ≤ 9223372036854775807 := by
  simp only [okIL, Bool.and_eq_true, decide_eq_true_eq] at h; exact h.2
theorem okLens_len {L : List (List Int)} (h : okLens L = true) : L.length ≤ 9223372036854775807 := by
  simp only [okLens, Bool.and_eq_true, decide_eq_true_eq] at h; exact h.2
theorem okLens_mem {L : List (List Int)} (h : okLens L = true) : ∀ c ∈ L, okIL c = true := by
  simp only [okLens, Bool.and_eq_true, List.all_eq_true] at h; exact h.1
theorem okLens_at {L : List (List Int)} (h : okLens L = true) (i : Nat) : okIL (L.getD i []) = true := by
  by_cases hi : i < L.length
  · have : L.getD i [] = L[i] := by simp [hi]
    rw [this]; exact okLens_mem h _ (List.getElem_mem hi)
  · have : L.getD i [] = [] := by simp [List.getD, List.getElem?_eq_none (by omega : L.length ≤ i)]
    rw [this]; rfl
theorem okInts_il {xs : List Int} (h : okIL xs = true) (hl : xs.length ≤ 17592186044416) : okInts xs = true := by
  simp only [okIL, okInts, Bool.and_eq_true, decide_eq_true_eq] at h ⊢; exact ⟨h.1, hl⟩
theorem okIL_ints {xs : List Int} (h : okInts xs = true) : okIL xs = true := by
  simp only [okIL, okInts, Bool.and_eq_true, decide_eq_true_eq] at h ⊢; exact ⟨h.1, by omega⟩
theorem okRows_lens {L : List (List Int)} (h : okLens L = true) (hl : L.length ≤ 5864062014805) (hc : ∀ c ∈ L, c.length ≤ 17592186044416) : okRows L = true := by
  simp only [okRows, Bool.and_eq_true, List.all_eq_true, decide_eq_true_eq]
  exact ⟨fun c hcc => okInts_il (okLens_mem h c hcc) (hc c hcc), hl⟩
theorem okLens_rows {L : List (List Int)} (h : okRows L = true) : okLens L = true := by
  simp only [okLens, Bool.and_eq_true, List.all_eq_true, decide_eq_true_eq]
  exact ⟨fun c hc => okIL_ints (okRows_mem h c hc), by have := okRows_len h; omega⟩

theorem ints_ex : ∀ (ys : List (List AV)), (∀ q ∈ ys, ∃ x, q = [AV.v (.int .i64 x)] ∧ (Lit.int .i64 x).wf = true) → ∃ xs : List Int, ys = xs.map (fun x => [AV.v (.int .i64 x)]) ∧ xs.all okI = true
  | [], _ => ⟨[], rfl, rfl⟩
  | y :: ys, h => by
    obtain ⟨x, rfl, hx⟩ := h y (by simp)
    obtain ⟨xs, rfl, hxs⟩ := ints_ex ys fun q hq => h q (List.mem_cons_of_mem _ hq)
    refine ⟨x :: xs, rfl, ?_⟩
    have := bounds_i64 hx
    simp only [List.all_cons, hxs, Bool.and_true, okI, Bool.and_eq_true, decide_eq_true_eq]
    exact this
theorem rows_ex : ∀ (ys : List (List AV)), (∀ q ∈ ys, ∃ xs, q = [aInts xs] ∧ okIL xs = true) → ∃ L : List (List Int), ys = L.map (fun xs => [aInts xs]) ∧ L.all okIL = true
  | [], _ => ⟨[], rfl, rfl⟩
  | y :: ys, h => by
    obtain ⟨xs, rfl, hx⟩ := h y (by simp)
    obtain ⟨L, rfl, hL⟩ := rows_ex ys fun q hq => h q (List.mem_cons_of_mem _ hq)
    exact ⟨xs :: L, rfl, by simp [hx, hL]⟩
section
variable {H : Type} {enc : TypeId × Value → H} {W : World}
theorem opens_i64 : Opens enc Try.prog W 3 (fun r => ∃ x, r = [.v (.int .i64 x)] ∧ okI x = true) :=
  (opens_int Try.underlying3).mono fun r h => by
    obtain ⟨x, rfl, hx⟩ := h
    refine ⟨x, rfl, ?_⟩
    have := bounds_i64 hx
    simp only [okI, Bool.and_eq_true, decide_eq_true_eq]; exact this
theorem opens_ints : Opens enc Try.prog W 38 (fun r => ∃ xs, r = [aInts xs] ∧ okIL xs = true) :=
  (opens_slice (sz := 1) Try.underlying38 (by kernel_rfl) (by omega) (opens_int Try.underlying3)).mono fun r h => by
    obtain ⟨ys, rfl, hl, hy⟩ := h
    obtain ⟨xs, rfl, hx⟩ := ints_ex ys hy
    refine ⟨xs, rfl, ?_⟩
    simp only [okIL, hx, Bool.true_and, decide_eq_true_eq]
    simpa [AMax] using hl
theorem opens_rows : Opens enc Try.prog W 22 (fun r => ∃ L, r = [aRows L] ∧ okLens L = true) :=
  (opens_slice (sz := 1) Try.underlying22 (by kernel_rfl) (by omega) opens_ints).mono fun r h => by
    obtain ⟨ys, rfl, hl, hy⟩ := h
    obtain ⟨L, rfl, hx⟩ := rows_ex ys hy
    refine ⟨L, rfl, ?_⟩
    simp only [okLens, hx, Bool.true_and, decide_eq_true_eq]
    simpa [AMax] using hl
theorem opens_th : Opens enc Try.prog W 24 (fun r => ∃ N L, r = [.v (.int .i64 N), aRows L] ∧ okI N = true ∧ okLens L = true) :=
  (opens_st2 (t0 := 3) (t1 := 22) (c0 := 1) (c1 := 1) Try.underlying24 rfl rfl rfl rfl (by kernel_rfl) (by kernel_rfl) (by kernel_rfl) opens_i64 opens_rows).mono fun r h => by
    obtain ⟨_, _, rfl, ⟨N, rfl, hN⟩, L, rfl, hL⟩ := h
    exact ⟨N, L, rfl, hN, hL⟩
theorem arg_th {base : Nat} {sp : Nat → Bool} {held : Bool} {v : Value} {d : DataW H} {p : List MemPlace} (hval : Value.okWide Try.prog W .any base 24 v) (h : DataW.Trod enc Try.prog W 0 sp held 24 v d p) :
    ∃ N L, Rv (G0 (allS W)) (.agg [.v (.int .i64 N), aRows L]) v ∧ okI N = true ∧ okLens L = true := by
  obtain ⟨row, h1, N, L, rfl, h2, h3⟩ := arg_agg (.inl ⟨_, Try.underlying24⟩) hval h opens_th
  exact ⟨N, L, h1, h2, h3⟩
theorem arg_i64 {base : Nat} {sp : Nat → Bool} {held : Bool} {v : Value} {d : DataW H} {p : List MemPlace} (hval : Value.okWide Try.prog W .any base 3 v) (h : DataW.Trod enc Try.prog W 0 sp held 3 v d p) :
    ∃ x, Rv (G0 (allS W)) (.v (.int .i64 x)) v ∧ okI x = true := by
  obtain ⟨a, h1, x, h2, h3⟩ := arg_one (cells_int Try.underlying3 hval) h opens_i64
  cases h2
  exact ⟨x, h1, h3⟩
theorem arg_ints {base : Nat} {sp : Nat → Bool} {held : Bool} {v : Value} {d : DataW H} {p : List MemPlace} (hval : Value.okWide Try.prog W .any base 38 v) (h : DataW.Trod enc Try.prog W 0 sp held 38 v d p) :
    ∃ xs, Rv (G0 (allS W)) (aInts xs) v ∧ okIL xs = true := by
  obtain ⟨a, h1, x, h2, h3⟩ := arg_one (cells_slice Try.underlying38 hval) h opens_ints
  cases h2
  exact ⟨x, h1, h3⟩
theorem wv_ofInt {x : Int} (h0 : 0 ≤ x) (h1 : x ≤ 18446744073709551615) : WV (BitVec.ofInt 64 x) = .int .u64 x := by
  unfold WV
  congr 1
  rw [BitVec.toNat_ofInt]
  omega
theorem opens_set : Opens enc Try.prog W 36 (fun r => ∃ s : BitVec 128, r = [.v (WV (lo s)), .v (WV (hi s))]) :=
  (opens_arr2 (e := 34) (c := 1) Try.underlying36 (by kernel_rfl) (by kernel_rfl) (opens_int Try.underlying34)).mono fun r h => by
    obtain ⟨_, _, rfl, ⟨x, rfl, hx⟩, y, rfl, hy⟩ := h
    have h1 := bounds_u64 hx
    have h2 := bounds_u64 hy
    refine ⟨BitVec.ofInt 64 y ++ BitVec.ofInt 64 x, ?_⟩
    have e1 : lo (BitVec.ofInt 64 y ++ BitVec.ofInt 64 x) = BitVec.ofInt 64 x := by
      apply BitVec.eq_of_getLsbD_eq
      intro i hi
      rw [lo_bit, BitVec.getLsbD_append]
      simp [hi]
    have e2 : hi (BitVec.ofInt 64 y ++ BitVec.ofInt 64 x) = BitVec.ofInt 64 y := by
      apply BitVec.eq_of_getLsbD_eq
      intro i hi'
      rw [hi_bit, BitVec.getLsbD_append]
      simp [hi']
    rw [e1, e2, wv_ofInt h1.1 h1.2, wv_ofInt h2.1 h2.2]
    rfl
theorem arg_set {base : Nat} {sp : Nat → Bool} {held : Bool} {v : Value} {d : DataW H} {p : List MemPlace} (hval : Value.okWide Try.prog W .any base 36 v) (h : DataW.Trod enc Try.prog W 0 sp held 36 v d p) :
    ∃ s : BitVec 128, Rv (G0 (allS W)) (aSet s) v := by
  obtain ⟨row, h1, s, rfl⟩ := arg_agg (.inr ⟨_, _, Try.underlying36⟩) hval h opens_set
  exact ⟨s, h1⟩
theorem arg_u8 {base : Nat} {sp : Nat → Bool} {held : Bool} {v : Value} {d : DataW H} {p : List MemPlace} (hval : Value.okWide Try.prog W .any base 5 v) (h : DataW.Trod enc Try.prog W 0 sp held 5 v d p) :
    ∃ x : Int, Rv (G0 (allS W)) (.v (.int .u8 x)) v ∧ 0 ≤ x ∧ x ≤ 255 := by
  obtain ⟨a, h1, x, h2, h3⟩ := arg_one (cells_int Try.underlying5 hval) h (opens_int Try.underlying5)
  cases h2
  exact ⟨x, h1, bounds_u8 h3⟩
theorem arg_u16 {base : Nat} {sp : Nat → Bool} {held : Bool} {v : Value} {d : DataW H} {p : List MemPlace} (hval : Value.okWide Try.prog W .any base 50 v) (h : DataW.Trod enc Try.prog W 0 sp held 50 v d p) :
    ∃ x : Int, Rv (G0 (allS W)) (.v (.int .u16 x)) v ∧ 0 ≤ x ∧ x ≤ 65535 := by
  obtain ⟨a, h1, x, h2, h3⟩ := arg_one (cells_int Try.underlying50 hval) h (opens_int Try.underlying50)
  cases h2
  exact ⟨x, h1, bounds_u16 h3⟩
end
end Go.Proofs.Ytkollnaojpppcaa
