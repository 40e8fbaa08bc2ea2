/- Lists and sets on the abstract machine, and old contracts turned into its own; plain lemmas over any program; no condition. -/
import Derived.Test.YtkollnaojpppcaaAm17
import Derived.Test.YtkollnaojpppcaaTi
import Derived.Test.YtkollnaojpppcaaLit2
import Derived.Test.YtkollnaojpppcaaOwn
namespace Go.Proofs.Ytkollnaojpppcaa
open Go.RowKit

/-! ### Integers, lists, rows, sets -/
def okI (x : Int) : Bool := decide (-9223372036854775808 ≤ x) && decide (x ≤ 9223372036854775807)
def okInts (xs : List Int) : Bool := xs.all okI && decide (xs.length ≤ 17592186044416)
def okRows (L : List (List Int)) : Bool := L.all okInts && decide (L.length ≤ 5864062014805)
def aInts (xs : List Int) : AV := .sl 1 (xs.map fun x => [.v (.int .i64 x)])
def aRows (L : List (List Int)) : AV := .sl 1 (L.map fun xs => [aInts xs])
def aSet (s : BitVec 128) : AV := .agg [.v (WV (lo s)), .v (WV (hi s))]

theorem okI_iff {x : Int} : okI x = true ↔ I64 x := by simp [okI, I64]
theorem okInts_mem {xs : List Int} (h : okInts xs = true) : ∀ x ∈ xs, okI x = true := by
  simp only [okInts, Bool.and_eq_true, List.all_eq_true] at h; exact h.1
theorem okInts_len {xs : List Int} (h : okInts xs = true) : xs.length ≤ 17592186044416 := by
  simp only [okInts, Bool.and_eq_true, decide_eq_true_eq] at h; exact h.2
theorem okRows_mem {L : List (List Int)} (h : okRows L = true) : ∀ x ∈ L, okInts x = true := by
  simp only [okRows, Bool.and_eq_true, List.all_eq_true] at h; exact h.1
theorem okRows_len {L : List (List Int)} (h : okRows L = true) : L.length ≤ 5864062014805 := by
  simp only [okRows, Bool.and_eq_true, decide_eq_true_eq] at h; exact h.2
theorem okInts_at {xs : List Int} (h : okInts xs = true) (i : Nat) : I64 (xs.getD i 0) := by
  by_cases hi : i < xs.length
  · have : xs.getD i 0 = xs[i] := by simp [hi]
    rw [this]; exact okI_iff.1 (okInts_mem h _ (List.getElem_mem hi))
  · have : xs.getD i 0 = 0 := by simp [List.getD, List.getElem?_eq_none (by omega : xs.length ≤ i)]
    rw [this]; exact ⟨by omega, by omega⟩
theorem okRows_at {L : List (List Int)} (h : okRows L = true) (i : Nat) : okInts (L.getD i []) = true := by
  by_cases hi : i < L.length
  · have : L.getD i [] = L[i] := by simp [hi]
    rw [this]; exact okRows_mem h _ (List.getElem_mem hi)
  · have : L.getD i [] = [] := by simp [List.getD, List.getElem?_eq_none (by omega : L.length ≤ i)]
    rw [this]; rfl

@[simp] theorem ids_ints (xs : List Int) : (aInts xs).ids = [] := by
  induction xs with
  | nil => rfl
  | cons x xs ih => simp only [aInts, AV.ids, List.map_cons, idsLL, idsL, List.append_nil, List.nil_append] at ih ⊢; exact ih
@[simp] theorem ids_rows (L : List (List Int)) : (aRows L).ids = [] := by
  induction L with
  | nil => rfl
  | cons x xs ih => simp only [aRows, AV.ids, List.map_cons, idsLL, idsL, List.append_nil, ids_ints, List.nil_append] at ih ⊢; exact ih
@[simp] theorem ids_set (s : BitVec 128) : (aSet s).ids = [] := rfl
@[simp] theorem idsLL_ints (xs : List Int) : idsLL (xs.map fun x => [.v (.int .i64 x)]) = [] := ids_ints xs
@[simp] theorem idsLL_rows (L : List (List Int)) : idsLL (L.map fun xs => [aInts xs]) = [] := ids_rows L

@[simp ↓ high] theorem d_shut1_ints (σ : AS) (D : Nat → Bool) (xs : List Int) : σ.shut1 D (aInts xs) = some (aInts xs) := by
  have : σ.shut1 D (aInts xs) = if (aInts xs).ids = [] then some (aInts xs) else none := rfl
  rw [this, if_pos (ids_ints xs)]
@[simp ↓ high] theorem d_shut2_ints (σ : AS) (D : Nat → Bool) (xs : List Int) : σ.shut2 D (aInts xs) = some (aInts xs) := d_shut1_ints σ D xs
@[simp ↓ high] theorem d_shut1_rows (σ : AS) (D : Nat → Bool) (L : List (List Int)) : σ.shut1 D (aRows L) = some (aRows L) := by
  have : σ.shut1 D (aRows L) = if (aRows L).ids = [] then some (aRows L) else none := rfl
  rw [this, if_pos (ids_rows L)]
@[simp ↓ high] theorem d_shut2_rows (σ : AS) (D : Nat → Bool) (L : List (List Int)) : σ.shut2 D (aRows L) = some (aRows L) := d_shut1_rows σ D L
@[simp ↓ high] theorem d_shut2_set (σ : AS) (D : Nat → Bool) (s : BitVec 128) : σ.shut2 D (aSet s) = some (aSet s) := rfl

@[simp ↓ high] theorem d_lenA_ints (xs : List Int) : lenA (aInts xs) = some xs.length := by simp [lenA, aInts]
@[simp ↓ high] theorem d_lenA_rows (L : List (List Int)) : lenA (aRows L) = some L.length := by simp [lenA, aRows]
@[simp ↓ high] theorem d_flat_ints (xs : List Int) : (aInts xs).flat = true := rfl
@[simp ↓ high] theorem d_flat_rows (L : List (List Int)) : (aRows L).flat = true := rfl
@[simp ↓ high] theorem d_cells_ints (xs : List Int) : (aInts xs).cells = [aInts xs] := rfl
@[simp ↓ high] theorem d_cells_rows (L : List (List Int)) : (aRows L).cells = [aRows L] := rfl
@[simp ↓ high] theorem d_cell_ints (xs : List Int) : (aInts xs).cell = true := rfl
@[simp ↓ high] theorem d_cell_rows (L : List (List Int)) : (aRows L).cell = true := rfl
@[simp ↓ high] theorem d_ids_ints' (xs : List Int) : (aInts xs).ids = [] := ids_ints xs
@[simp ↓ high] theorem d_ids_rows' (L : List (List Int)) : (aRows L).ids = [] := ids_rows L

@[simp ↓ high] theorem d_ren_ints (ρ : Nat → Nat) (xs : List Int) : (aInts xs).ren ρ = aInts xs := AV.ren_pure ρ _ (ids_ints xs)
@[simp ↓ high] theorem d_ren_rows (ρ : Nat → Nat) (L : List (List Int)) : (aRows L).ren ρ = aRows L := AV.ren_pure ρ _ (ids_rows L)
@[simp ↓ high] theorem d_ren_set (ρ : Nat → Nat) (s : BitVec 128) : (aSet s).ren ρ = aSet s := AV.ren_pure ρ _ rfl
@[simp ↓ high] theorem d_renLL_ints (ρ : Nat → Nat) (xs : List Int) : renLL ρ (xs.map fun x => [AV.v (.int .i64 x)]) = xs.map fun x => [AV.v (.int .i64 x)] := renLL_pure ρ _ (idsLL_ints xs)
@[simp ↓ high] theorem d_renLL_rows (ρ : Nat → Nat) (L : List (List Int)) : renLL ρ (L.map fun xs => [aInts xs]) = L.map fun xs => [aInts xs] := renLL_pure ρ _ (idsLL_rows L)
theorem i64w {x : Int} (h1 : -9223372036854775808 ≤ x) (h2 : x ≤ 9223372036854775807) : IntKind.i64.wrap x = x := IntWalk.i64_in x ⟨h1, h2⟩
theorem i64n (k : Nat) (h : k ≤ 9223372036854775807) : IntKind.i64.wrap (k : Int) = k := i64w (by omega) (by omega)
theorem i64s (k : Nat) (h : k < 9223372036854775807) : IntKind.i64.wrap ((k : Int) + 1) = (k : Int) + 1 := i64w (by omega) (by omega)
theorem getD_map_ints {xs : List Int} {k : Nat} (h : k < xs.length) : (xs.map fun x => [AV.v (.int .i64 x)]).getD k [] = [.v (.int .i64 (xs.getD k 0))] := by simp [List.getD, h]
theorem getD_map_rows {L : List (List Int)} {k : Nat} (h : k < L.length) : (L.map fun xs => [aInts xs]).getD k [] = [aInts (L.getD k [])] := by simp [List.getD, h]
theorem ixOk_lt {i : Value} {n m : Nat} (h : ixOk i n = some m) : m < n := by
  unfold ixOk at h
  split at h
  · split at h
    · cases h; omega
    · cases h
  · cases h
theorem map_ixOk {β : Type} {i : Value} {n : Nat} {f g : Nat → β} (h : ∀ m, m < n → f m = g m) : (ixOk i n).map f = (ixOk i n).map g := by
  cases he : ixOk i n with
  | none => rfl
  | some m => simp [h m (ixOk_lt he)]
@[simp ↓ high] theorem d_idxA_ints (σ : AS) (xs : List Int) (i : Value) : idxA σ (aInts xs) 1 i = (ixOk i xs.length).map fun m => (.pt [.v (.int .i64 (xs.getD m 0))], []) := by
  show (if 1 = 1 then (ixOk i (xs.map fun x => [AV.v (.int .i64 x)]).length).map _ else none) = _
  rw [if_pos rfl, List.length_map]
  exact map_ixOk fun m hm => by simp [List.getD, hm]
@[simp ↓ high] theorem d_idxA_rows (σ : AS) (L : List (List Int)) (i : Value) : idxA σ (aRows L) 1 i = (ixOk i L.length).map fun m => (.pt [aInts (L.getD m [])], []) := by
  show (if 1 = 1 then (ixOk i (L.map fun xs => [aInts xs]).length).map _ else none) = _
  rw [if_pos rfl, List.length_map]
  exact map_ixOk fun m hm => by simp [List.getD, hm]
@[simp ↓ high] theorem d_slA_ints (σ : AS) (xs : List Int) (lo hi : Option Operand) : slA σ (aInts xs) 1 lo hi = (bndA σ xs.length lo hi).map fun p => (aInts ((xs.drop p.1).take (p.2 - p.1)), []) := by
  show (match bndA σ (xs.map fun x => [AV.v (.int .i64 x)]).length lo hi with | some (l, h) => if 1 = 1 then some (AV.sl 1 (((xs.map fun x => [AV.v (.int .i64 x)]).drop l).take (h - l)), []) else none | none => none) = _
  rw [List.length_map]
  cases bndA σ xs.length lo hi with
  | none => rfl
  | some p => obtain ⟨l, h⟩ := p; simp [aInts, List.map_take, List.map_drop]
@[simp ↓ high] theorem d_rows_ints (σ : AS) (xs : List Int) : σ.rows 1 (aInts xs) = some (xs.map fun x => [AV.v (.int .i64 x)]) := rfl
@[simp ↓ high] theorem d_rows_rows (σ : AS) (L : List (List Int)) : σ.rows 1 (aRows L) = some (L.map fun xs => [aInts xs]) := rfl

/-! ### What a value holds, read off -/
def toI : AV → Option Int
  | .v (.int .i64 x) => some x
  | _ => none
def rowI : List AV → Option Int
  | [.v (.int .i64 x)] => some x
  | _ => none
def toIntsL : List (List AV) → Option (List Int)
  | [] => some []
  | r :: rs => match rowI r, toIntsL rs with
    | some x, some xs => some (x :: xs)
    | _, _ => none
def toInts : AV → Option (List Int)
  | .sl 1 ys => toIntsL ys
  | .v (.slice none 0 0) => some []
  | _ => none
def rowR : List AV → Option (List Int)
  | [a] => toInts a
  | _ => none
def toRowsL : List (List AV) → Option (List (List Int))
  | [] => some []
  | r :: rs => match rowR r, toRowsL rs with
    | some x, some xs => some (x :: xs)
    | _, _ => none
def toRows : AV → Option (List (List Int))
  | .sl 1 ys => toRowsL ys
  | .v (.slice none 0 0) => some []
  | _ => none
@[simp] theorem toIntsL_map (xs : List Int) : toIntsL (xs.map fun x => [.v (.int .i64 x)]) = some xs := by
  induction xs with
  | nil => rfl
  | cons x xs ih => simp [toIntsL, rowI, ih]
@[simp] theorem toInts_ints (xs : List Int) : toInts (aInts xs) = some xs := by simp [aInts, toInts]
@[simp] theorem toRowsL_map (L : List (List Int)) : toRowsL (L.map fun xs => [aInts xs]) = some L := by
  induction L with
  | nil => rfl
  | cons x xs ih => simp [toRowsL, rowR, ih]
@[simp] theorem toRows_rows (L : List (List Int)) : toRows (aRows L) = some L := by simp [aRows, toRows]
theorem toIntsL_get : ∀ {ys : List (List AV)} {xs : List Int}, toIntsL ys = some xs → xs.length = ys.length ∧ ∀ i, i < ys.length → ys.getD i [] = [.v (.int .i64 (xs.getD i 0))]
  | [], xs, h => by simp only [toIntsL, Option.some.injEq] at h; subst h; exact ⟨rfl, fun i hi => by simp at hi⟩
  | r :: rs, xs, h => by
    simp only [toIntsL] at h
    split at h
    · rename_i x l h1 h2
      cases h
      obtain ⟨h3, h4⟩ := toIntsL_get h2
      refine ⟨by simp [h3], fun i hi => ?_⟩
      cases i with
      | zero =>
        unfold rowI at h1
        split at h1
        · cases h1; rfl
        · cases h1
      | succ i => simpa using h4 i (by simpa using hi)
    · cases h
theorem toRowsL_get : ∀ {ys : List (List AV)} {L : List (List Int)}, toRowsL ys = some L → L.length = ys.length ∧ ∀ i, i < ys.length → ∃ a, ys.getD i [] = [a] ∧ toInts a = some (L.getD i [])
  | [], xs, h => by simp only [toRowsL, Option.some.injEq] at h; subst h; exact ⟨rfl, fun i hi => by simp at hi⟩
  | r :: rs, xs, h => by
    simp only [toRowsL] at h
    split at h
    · rename_i x l h1 h2
      cases h
      obtain ⟨h3, h4⟩ := toRowsL_get h2
      refine ⟨by simp [h3], fun i hi => ?_⟩
      cases i with
      | zero =>
        unfold rowR at h1
        split at h1
        · exact ⟨_, rfl, h1⟩
        · cases h1
      | succ i => simpa using h4 i (by simpa using hi)
    · cases h

/-! ### From the abstract machine to readings -/
/-- All cells. -/
abbrev Any : Foot := fun _ _ _ => True
theorem at_of_cell {w : World} {b o : Nat} {u : Value} (h : w.cell? ⟨b, o, none⟩ = some u) : At Any w b o u := by
  unfold World.cell? at h
  split at h
  · rename_i c e fz hb
    exact ⟨c, e, fz, hb, h, trivial⟩
  · cases h
theorem sl1_elems {S : Nat → Nat → Option Value} {w : World} {ys : List (List AV)} {v : Value} (hS : StOk S w) (h : Rv (G0 S) (.sl 1 ys) v) :
    ∃ a n c, v = .slice a n c ∧ n = ys.length ∧ n ≤ c ∧ (a = none → c = 0) ∧ ∀ i, i < ys.length → ∃ b o u, a = some ⟨b, o, none⟩ ∧ At Any w b (o + i) u ∧ Rv (G0 S) ((ys.getD i []).getD 0 .any) u := by
  cases h with
  | sl _ _ a n c us hn hc hm h0 hz ha h1 h =>
    refine ⟨a, n, c, rfl, hn, hc, h0, fun i hi => ?_⟩
    obtain ⟨b, o, rfl, hs⟩ := ha (by omega)
    have := hs i 0 hi (by omega)
    exact ⟨b, o, us i 0, rfl, at_of_cell (hS _ _ _ (by rw [← this]; congr 1; omega)), h i 0 hi (by omega)⟩
theorem ints_of {S : Nat → Nat → Option Value} {w : World} {av : AV} {v : Value} {xs : List Int} (hS : StOk S w) (h : Rv (G0 S) av v) (ht : toInts av = some xs) (hk : okInts xs = true) : Ints Any w v xs := by
  unfold toInts at ht
  split at ht
  · rename_i ys
    obtain ⟨h1, h2⟩ := toIntsL_get ht
    obtain ⟨a, n, c, rfl, hn, hc, h0, h⟩ := sl1_elems hS h
    have := okInts_len hk
    refine ⟨a, n, c, rfl, by omega, hc, by show n * 8 ≤ _; omega, h0, fun i hi => ?_⟩
    obtain ⟨b, o, u, rfl, g1, g2⟩ := h i (by omega)
    rw [h2 i (by omega)] at g2
    have g3 : u = .int .i64 (xs.getD i 0) := g2.v_eq
    have g4 : xs.getD i 0 = xs[i] := by simp [hi]
    refine ⟨b, o, [.int .i64 (xs.getD i 0)], rfl, rfl, fun j hj => ?_, by rw [g4]; exact ⟨rfl, okI_iff.1 (okInts_mem hk _ (List.getElem_mem hi))⟩⟩
    have : j = 0 := by simpa using hj
    subst this
    show At Any w b (o + i * 1 + 0) _
    rw [show o + i * 1 + 0 = o + i by omega]
    subst g3; exact g1
  · cases ht
    have := h.v_eq
    subst this
    exact ⟨none, 0, 0, rfl, rfl, Nat.le_refl _, by simp, fun _ => rfl, fun i hi => by simp at hi⟩
  · cases ht
theorem rows_of {S : Nat → Nat → Option Value} {w : World} {av : AV} {v : Value} {L : List (List Int)} (hS : StOk S w) (h : Rv (G0 S) av v) (ht : toRows av = some L) (hk : okRows L = true) : IntRows Any w v L := by
  unfold toRows at ht
  split at ht
  · rename_i ys
    obtain ⟨h1, h2⟩ := toRowsL_get ht
    obtain ⟨a, n, c, rfl, hn, hc, h0, h⟩ := sl1_elems hS h
    have := okRows_len hk
    refine ⟨a, n, c, rfl, by omega, hc, by show n * 24 ≤ _; omega, h0, fun i hi => ?_⟩
    obtain ⟨b, o, u, rfl, g1, g2⟩ := h i (by omega)
    obtain ⟨av, g3, g4⟩ := h2 i (by omega)
    rw [g3] at g2
    replace g2 : Rv (G0 S) av u := g2
    have g5 : L.getD i [] = L[i] := by simp [hi]
    refine ⟨b, o, [u], rfl, rfl, fun j hj => ?_, ints_of hS g2 (by rw [g4, g5]) (okRows_mem hk _ (List.getElem_mem hi))⟩
    have : j = 0 := by simpa using hj
    subst this
    show At Any w b (o + i * 1 + 0) _
    rw [show o + i * 1 + 0 = o + i by omega]
    simpa using g1
  · cases ht
    have := h.v_eq
    subst this
    exact ⟨none, 0, 0, rfl, rfl, Nat.le_refl _, by simp, fun _ => rfl, fun i hi => by simp at hi⟩
  · cases ht

/-! ### From readings to the abstract machine -/
theorem rv_ints {F : Foot} {w : World} {v : Value} {xs : List Int} {S : Nat → Nat → Option Value} {L : Nat → Option (Option Nat × Nat × Nat × Nat)} (h : Ints F w v xs) (hS : ∀ b o u, At F w b o u → S b o = some u) : Rv ⟨S, L⟩ (aInts xs) v := by
  obtain ⟨a, n, c, hv, hn, hc, hm, h0, he⟩ := h
  obtain rfl : v = .slice a n c := by simpa using hv
  have hm' : n * 8 ≤ 140737488355328 := hm
  refine .sl 1 _ a n c (fun i _ => .int .i64 (xs.getD i 0)) (by simpa using hn) hc (by unfold AMax; omega) h0 (fun i hi => by simp at hi; simp [List.getD, hi]) (fun hp => ?_) (fun i j hi hj => rfl) (fun i j hi hj => ?_)
  · have h0 : 0 < xs.length := by simpa using hp
    obtain ⟨b, o, raw, ha, _⟩ := he 0 h0
    refine ⟨b, o, ha, fun i j hi hj => ?_⟩
    have hi' : i < xs.length := by simpa using hi
    obtain ⟨b', o', raw, ha', h1, h2, h3⟩ := he i hi'
    rw [ha] at ha'; cases ha'
    obtain ⟨h4, h5⟩ := h3
    subst h4
    have h6 := h2 0 (by simp)
    have : j = 0 := by omega
    subst this
    refine hS _ _ _ ?_

    have h8 : (xs.getD i 0) = xs[i] := by simp [List.getD, hi']
    rw [h8]
    have h9 : o + i * eInt.size + 0 = o + i * 1 + 0 := rfl
    rw [h9] at h6; exact h6
  · have hi' : i < xs.length := by simpa using hi
    have : j = 0 := by omega
    subst this
    simp only [List.getD, List.getElem?_map, hi', List.getElem?_eq_getElem, Option.map_some, Option.getD_some, List.getElem?_cons_zero]
    exact .v _
theorem rv_rows {F : Foot} {w : World} {v : Value} {M : List (List Int)} {S : Nat → Nat → Option Value} {L : Nat → Option (Option Nat × Nat × Nat × Nat)} (h : IntRows F w v M) (hS : ∀ b o u, At F w b o u → S b o = some u) : Rv ⟨S, L⟩ (aRows M) v := by
  obtain ⟨a, n, c, hv, hn, hc, hm, h0, he⟩ := h
  obtain rfl : v = .slice a n c := by simpa using hv
  have hm' : n * 24 ≤ 140737488355328 := hm
  have key : ∀ i, i < M.length → ∃ u, (∃ b o, a = some ⟨b, o, none⟩ ∧ S b (o + i) = some u) ∧ Ints F w u (M.getD i []) ∧ u.oneCell' = true := fun i hi => by
    obtain ⟨b, o, raw, ha, h1, h2, h3⟩ := he i hi
    obtain ⟨a', n', c', h4, h5⟩ := id h3
    subst h4
    have h6 := h2 0 (by simp)
    refine ⟨.slice a' n' c', ⟨b, o, ha, hS _ _ _ ?_⟩, ?_, rfl⟩
    · have h7 : o + i * (eList eInt).size + 0 = o + i := by show o + i * 1 + 0 = o + i; omega
      rw [h7] at h6; simpa using h6
    · have : M.getD i [] = M[i] := by simp [hi]
      rw [this]; exact h3
  refine .sl 1 _ a n c (fun i _ => if hi : i < M.length then (key i hi).choose else undef) (by simpa using hn) hc (by unfold AMax; omega) h0 (fun i hi => by simp at hi; simp [List.getD, hi]) (fun hp => ?_) (fun i j hi hj => ?_) (fun i j hi hj => ?_)
  · have h0 : 0 < M.length := by simpa using hp
    obtain ⟨⟨b, o, ha, _⟩, _⟩ := (key 0 h0).choose_spec
    refine ⟨b, o, ha, fun i j hi hj => ?_⟩
    have hi' : i < M.length := by simpa using hi
    obtain ⟨⟨b', o', ha', h1⟩, _⟩ := (key i hi').choose_spec
    rw [ha] at ha'; cases ha'
    have : j = 0 := by omega
    subst this
    simp only [dif_pos hi']
    rw [← h1]; congr 1; omega
  · have hi' : i < M.length := by simpa using hi
    simp only [dif_pos hi']
    exact (key i hi').choose_spec.2.2
  · have hi' : i < M.length := by simpa using hi
    have : j = 0 := by omega
    subst this
    simp only [dif_pos hi']
    have h1 := (key i hi').choose_spec.2.1
    have h2 : ((M.map fun xs => [aInts xs]).getD i []).getD 0 .any = aInts (M.getD i []) := by simp [List.getD, hi']
    rw [h2]
    exact rv_ints h1 hS
theorem fresh_new {w : World} {B b o : Nat} {u : Value} (h : At (Fresh B) w b o u) : newS (fun b o => w.cell? ⟨b, o, none⟩) B b o = some u := by
  have h1 := h.cell
  obtain ⟨c, e, fz, _, _, hB, _⟩ := h
  unfold newS
  rw [if_neg (by omega)]; exact h1

/-! ### Arguments -/
theorem args1 {G : Gh} {a : AV} {vs : Array Value} (hn : vs.size = [a].length) (hv : ∀ i, i < [a].length → Rv G ([a].getD i .any) (vs.getD i undef)) : ∃ u, vs = #[u] ∧ Rv G a u := by
  have h0 := hv 0 (by simp)
  obtain ⟨l⟩ := vs
  match l, hn with
  | [u], _ => exact ⟨u, rfl, by simpa using h0⟩
theorem args2 {G : Gh} {a b : AV} {vs : Array Value} (hn : vs.size = [a, b].length) (hv : ∀ i, i < [a, b].length → Rv G ([a, b].getD i .any) (vs.getD i undef)) : ∃ u v, vs = #[u, v] ∧ Rv G a u ∧ Rv G b v := by
  have h0 := hv 0 (by simp)
  have h1 := hv 1 (by simp)
  obtain ⟨l⟩ := vs
  match l, hn with
  | [u, v], _ => exact ⟨u, v, rfl, by simpa using h0, by simpa using h1⟩
theorem args3 {G : Gh} {a b c : AV} {vs : Array Value} (hn : vs.size = [a, b, c].length) (hv : ∀ i, i < [a, b, c].length → Rv G ([a, b, c].getD i .any) (vs.getD i undef)) : ∃ u v z, vs = #[u, v, z] ∧ Rv G a u ∧ Rv G b v ∧ Rv G c z := by
  have h0 := hv 0 (by simp)
  have h1 := hv 1 (by simp)
  have h2 := hv 2 (by simp)
  obtain ⟨l⟩ := vs
  match l, hn with
  | [u, v, z], _ => exact ⟨u, v, z, rfl, by simpa using h0, by simpa using h1, by simpa using h2⟩
theorem rv_set {G : Gh} {s : BitVec 128} {v : Value} (h : Rv G (aSet s) v) : v = SV s := by
  obtain ⟨arr, rfl, hl, _, hcs⟩ := h.agg_inv
  have h0 := (hcs 0 (by simp)).v_eq
  have h1 := (hcs 1 (by simp)).v_eq
  obtain ⟨l⟩ := arr
  match l, hl with
  | [x, y], _ => simp at h0 h1; rw [h0, h1]
theorem set_rv {G : Gh} (s : BitVec 128) : Rv G (aSet s) (SV s) := by
  refine .agg _ [WV (lo s), WV (hi s)] rfl (fun u hu => ?_) (fun i hi => ?_)
  · simp at hu; rcases hu with rfl | rfl <;> rfl
  · match i, hi with
    | 0, _ => exact .v _
    | 1, _ => exact .v _

/-! ### Tables -/
/-- One row of a table of proved functions. -/
def EntOk (P : Program) (f : FuncId) (g : List AV → Option (AV × Bool)) : Prop := fnB P f = true ∧ ∀ args r fr, g args = some (r, fr) → FnPure P f args r ∧ (fr = true → FnFresh P f args r)
def tab (l : List (FuncId × (List AV → Option (AV × Bool)))) : PTab := fun f args => match lk l f with
  | some g => g args
  | none => none
theorem tab_ok {P : Program} {l : List (FuncId × (List AV → Option (AV × Bool)))} (h : ∀ p ∈ l, EntOk P p.1 p.2) : PTok P (tab l) := fun f args r fr hf => by
  unfold tab at hf
  split at hf
  · rename_i g hg
    obtain ⟨h1, h2⟩ := h (f, g) (mem_lk hg)
    exact ⟨h1, h2 args r fr hf⟩
  · cases hf
/-- It returns this value and leaves the world, or makes memory alone. -/
theorem fresh_same {P : Program} {f : FuncId} {args : List AV} {r : Value} (h : ∀ (S : Nat → Nat → Option Value) (w : World) (vs : Array Value), StOk S w → vs.size = args.length → (∀ i, i < args.length → Rv (G0 S) (args.getD i .any) (vs.getD i undef)) → Calls P f vs w fun e w' => e = .returned r ∧ w = w') : FnFresh P f args (.v r) :=
  fun S w vs hS hn hv => (h S w vs hS hn hv).mono fun e w' ⟨h1, h2⟩ => ⟨r, h1, by subst h2; exact Below.refl _ _, .v _⟩
theorem fresh_gives {P : Program} {f : FuncId} {args : List AV} {r : Value} {av : AV} (hav : ∀ G, Rv G av r) (h : ∀ (S : Nat → Nat → Option Value) (w : World) (vs : Array Value), StOk S w → vs.size = args.length → (∀ i, i < args.length → Rv (G0 S) (args.getD i .any) (vs.getD i undef)) → Calls P f vs w (Gives w r)) : FnFresh P f args av :=
  fun S w vs hS hn hv => (h S w vs hS hn hv).mono fun e w' ⟨h1, h2⟩ => ⟨r, h1, h2, hav _⟩
theorem ent_fresh {P : Program} {f : FuncId} {g : List AV → Option (AV × Bool)} (hf : fnB P f = true) (h : ∀ args r fr, g args = some (r, fr) → FnFresh P f args r) : EntOk P f g :=
  ⟨hf, fun args r fr hg => ⟨(h args r fr hg).pure, fun _ => h args r fr hg⟩⟩
theorem ent_pure {P : Program} {f : FuncId} {g : List AV → Option (AV × Bool)} (hf : fnB P f = true) (h : ∀ args r fr, g args = some (r, fr) → FnPure P f args r ∧ fr = false) : EntOk P f g :=
  ⟨hf, fun args r fr hg => ⟨(h args r fr hg).1, fun e => by rw [(h args r fr hg).2] at e; cases e⟩⟩
@[simp] theorem take_map_len {α β : Type} (f : α → β) (l : List α) : (l.map f).take l.length = l.map f := List.take_of_length_le (by simp)
@[simp] theorem fold_ints (xs : List Int) : AV.sl 1 (xs.map fun x => [AV.v (.int .i64 x)]) = aInts xs := rfl
@[simp] theorem fold_rows (L : List (List Int)) : AV.sl 1 (L.map fun xs => [aInts xs]) = aRows L := rfl
@[simp] theorem idsLL_append (xs ys : List (List AV)) : idsLL (xs ++ ys) = idsLL xs ++ idsLL ys := by
  induction xs with
  | nil => rfl
  | cons x xs ih => simp [idsLL, ih, List.append_assoc]
end Go.Proofs.Ytkollnaojpppcaa
