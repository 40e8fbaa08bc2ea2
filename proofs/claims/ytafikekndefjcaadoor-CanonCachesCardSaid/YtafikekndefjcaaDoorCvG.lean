/- Lists and sets on the abstract machine, and old contracts turned into its own; plain lemmas over any program; no condition. -/
import Derived.Test.YtafikekndefjcaaDoorAmB
import Derived.Test.YtafikekndefjcaaDoorTi
import Derived.Test.YtafikekndefjcaaDoorOld
/- Cv: Lists and sets on the abstract machine, and old contracts turned into its own; plain lemmas over any program; no condition. -/
namespace Go.Proofs.YtafikekndefjcaaDoor
set_option linter.unusedVariables false
set_option linter.unusedSimpArgs false
set_option linter.unusedSectionVars false
open Go.RowKit

/-! ### Integers, lists, rows, sets -/
def okI (x : Int) : Bool := decide (-9223372036854775808 ≤ x) && decide (x ≤ 9223372036854775807)
def okInts (xs : List Int) : Bool := xs.all okI && decide (xs.length ≤ 17592186044416)
def okRows (L : List (List Int)) : Bool := L.all okInts && decide (L.length ≤ 5864062014805)
def aInts (xs : List Int) : AV := .sl 1 (xs.map fun x => [.v (.int .i64 x)])
def aRows (L : List (List Int)) : AV := .sl 1 (L.map fun xs => [aInts xs])
def aSet (s : BitVec 128) : AV := .agg [.v (WV (lo s)), .v (WV (hi s))]

theorem okI_iff {x : Int} : okI x = true ↔ I64 x := by simp [okI, I64]
theorem okInts_mem {xs : List Int} (h : okInts xs = true) : ∀ x ∈ xs, okI x = true := by
  simp only [okInts, Bool.and_eq_true, List.all_eq_true] at h; exact h.1
theorem okInts_len {xs : List Int} (h : okInts xs = true) : xs.length ≤ 17592186044416 := by
  simp only [okInts, Bool.and_eq_true, decide_eq_true_eq] at h; exact h.2
theorem okRows_mem {L : List (List Int)} (h : okRows L = true) : ∀ x ∈ L, okInts x = true := by
  simp only [okRows, Bool.and_eq_true, List.all_eq_true] at h; exact h.1
theorem okRows_len {L : List (List Int)} (h : okRows L = true) : L.length ≤ 5864062014805 := by
  simp only [okRows, Bool.and_eq_true, decide_eq_true_eq] at h; exact h.2
theorem okInts_at {xs : List Int} (h : okInts xs = true) (i : Nat) : I64 (xs.getD i 0) := by
  by_cases hi : i < xs.length
  · have : xs.getD i 0 = xs[i] := by simp [hi]
    rw [this]; exact okI_iff.1 (okInts_mem h _ (List.getElem_mem hi))
  · have : xs.getD i 0 = 0 := by simp [List.getD, List.getElem?_eq_none (by omega : xs.length ≤ i)]
    rw [this]; exact ⟨by omega, by omega⟩
theorem okRows_at {L : List (List Int)} (h : okRows L = true) (i : Nat) : okInts (L.getD i []) = true := by
  by_cases hi : i < L.length
  · have : L.getD i [] = L[i] := by simp [hi]
    rw [this]; exact okRows_mem h _ (List.getElem_mem hi)
  · have : L.getD i [] = [] := by simp [List.getD, List.getElem?_eq_none (by omega : L.length ≤ i)]
    rw [this]; rfl

@[simp] theorem ids_ints (xs : List Int) : (aInts xs).ids = [] := by
  induction xs with
  | nil => rfl
  | cons x xs ih => simp only [aInts, AV.ids, List.map_cons, idsLL, idsL, List.append_nil, List.nil_append] at ih ⊢; exact ih
@[simp] theorem ids_rows (L : List (List Int)) : (aRows L).ids = [] := by
  induction L with
  | nil => rfl
  | cons x xs ih => simp only [aRows, AV.ids, List.map_cons, idsLL, idsL, List.append_nil, ids_ints, List.nil_append] at ih ⊢; exact ih
@[simp] theorem ids_set (s : BitVec 128) : (aSet s).ids = [] := rfl
@[simp] theorem idsLL_ints (xs : List Int) : idsLL (xs.map fun x => [.v (.int .i64 x)]) = [] := ids_ints xs
@[simp] theorem idsLL_rows (L : List (List Int)) : idsLL (L.map fun xs => [aInts xs]) = [] := ids_rows L

@[simp ↓ high] theorem d_shut1_ints (σ : AS) (D : Nat → Bool) (xs : List Int) : σ.shut1 D (aInts xs) = some (aInts xs) := by
  have : σ.shut1 D (aInts xs) = if (aInts xs).ids = [] then some (aInts xs) else none := rfl
  rw [this, if_pos (ids_ints xs)]
@[simp ↓ high] theorem d_shut2_ints (σ : AS) (D : Nat → Bool) (xs : List Int) : σ.shut2 D (aInts xs) = some (aInts xs) := d_shut1_ints σ D xs
@[simp ↓ high] theorem d_shut1_rows (σ : AS) (D : Nat → Bool) (L : List (List Int)) : σ.shut1 D (aRows L) = some (aRows L) := by
  have : σ.shut1 D (aRows L) = if (aRows L).ids = [] then some (aRows L) else none := rfl
  rw [this, if_pos (ids_rows L)]
@[simp ↓ high] theorem d_shut2_rows (σ : AS) (D : Nat → Bool) (L : List (List Int)) : σ.shut2 D (aRows L) = some (aRows L) := d_shut1_rows σ D L
@[simp ↓ high] theorem d_shut2_set (σ : AS) (D : Nat → Bool) (s : BitVec 128) : σ.shut2 D (aSet s) = some (aSet s) := rfl

@[simp ↓ high] theorem d_lenA_ints (xs : List Int) : lenA (aInts xs) = some xs.length := by simp [lenA, aInts]
@[simp ↓ high] theorem d_lenA_rows (L : List (List Int)) : lenA (aRows L) = some L.length := by simp [lenA, aRows]
@[simp ↓ high] theorem d_flat_ints (xs : List Int) : (aInts xs).flat = true := rfl
@[simp ↓ high] theorem d_flat_rows (L : List (List Int)) : (aRows L).flat = true := rfl
@[simp ↓ high] theorem d_cells_ints (xs : List Int) : (aInts xs).cells = [aInts xs] := rfl
@[simp ↓ high] theorem d_cells_rows (L : List (List Int)) : (aRows L).cells = [aRows L] := rfl
@[simp ↓ high] theorem d_cell_ints (xs : List Int) : (aInts xs).cell = true := rfl
@[simp ↓ high] theorem d_cell_rows (L : List (List Int)) : (aRows L).cell = true := rfl
@[simp ↓ high] theorem d_ids_ints' (xs : List Int) : (aInts xs).ids = [] := ids_ints xs
@[simp ↓ high] theorem d_ids_rows' (L : List (List Int)) : (aRows L).ids = [] := ids_rows L

@[simp ↓ high] theorem d_ren_ints (ρ : Nat → Nat) (xs : List Int) : (aInts xs).ren ρ = aInts xs := AV.ren_pure ρ _ (ids_ints xs)
@[simp ↓ high] theorem d_ren_rows (ρ : Nat → Nat) (L : List (List Int)) : (aRows L).ren ρ = aRows L := AV.ren_pure ρ _ (ids_rows L)
@[simp ↓ high] theorem d_ren_set (ρ : Nat → Nat) (s : BitVec 128) : (aSet s).ren ρ = aSet s := AV.ren_pure ρ _ rfl
@[simp ↓ high] theorem d_renLL_ints (ρ : Nat → Nat) (xs : List Int) : renLL ρ (xs.map fun x => [AV.v (.int .i64 x)]) = xs.map fun x => [AV.v (.int .i64 x)] := renLL_pure ρ _ (idsLL_ints xs)
@[simp ↓ high] theorem d_renLL_rows (ρ : Nat → Nat) (L : List (List Int)) : renLL ρ (L.map fun xs => [aInts xs]) = L.map fun xs => [aInts xs] := renLL_pure ρ _ (idsLL_rows L)
theorem i64w {x : Int} (h1 : -9223372036854775808 ≤ x) (h2 : x ≤ 9223372036854775807) : IntKind.i64.wrap x = x := IntWalk.i64_in x ⟨h1, h2⟩
theorem i64n (k : Nat) (h : k ≤ 9223372036854775807) : IntKind.i64.wrap (k : Int) = k := i64w (by omega) (by omega)
theorem i64s (k : Nat) (h : k < 9223372036854775807) : IntKind.i64.wrap ((k : Int) + 1) = (k : Int) + 1 := i64w (by omega) (by omega)
theorem getD_map_ints {xs : List Int} {k : Nat} (h : k < xs.length) : (xs.map fun x => [AV.v (.int .i64 x)]).getD k [] = [.v (.int .i64 (xs.getD k 0))] := by simp [List.getD, h]
theorem getD_map_rows {L : List (List Int)} {k : Nat} (h : k < L.length) : (L.map fun xs => [aInts xs]).getD k [] = [aInts (L.getD k [])] := by simp [List.getD, h]
theorem ixOk_lt {i : Value} {n m : Nat} (h : ixOk i n = some m) : m < n := by
  unfold ixOk at h
  split at h
  · split at h
    · cases h; omega
    · cases h
  · cases h
theorem map_ixOk {β : Type} {i : Value} {n : Nat} {f g : Nat → β} (h : ∀ m, m < n → f m = g m) : (ixOk i n).map f = (ixOk i n).map g := by
  cases he : ixOk i n with
  | none => rfl
  | some m => simp [h m (ixOk_lt he)]
@[simp ↓ high] theorem d_idxA_ints (σ : AS) (xs : List Int) (i : Value) : idxA σ (aInts xs) 1 i = (ixOk i xs.length).map fun m => (.pt [.v (.int .i64 (xs.getD m 0))], []) := by
  show (if 1 = 1 then (ixOk i (xs.map fun x => [AV.v (.int .i64 x)]).length).map _ else none) = _
  rw [if_pos rfl, List.length_map]
  exact map_ixOk fun m hm => by simp [List.getD, hm]
@[simp ↓ high] theorem d_idxA_rows (σ : AS) (L : List (List Int)) (i : Value) : idxA σ (aRows L) 1 i = (ixOk i L.length).map fun m => (.pt [aInts (L.getD m [])], []) := by
  show (if 1 = 1 then (ixOk i (L.map fun xs => [aInts xs]).length).map _ else none) = _
  rw [if_pos rfl, List.length_map]
  exact map_ixOk fun m hm => by simp [List.getD, hm]
@[simp ↓ high] theorem d_slA_ints (σ : AS) (xs : List Int) (lo hi : Option Operand) : slA σ (aInts xs) 1 lo hi = (bndA σ xs.length lo hi).map fun p => (aInts ((xs.drop p.1).take (p.2 - p.1)), []) := by
  show (match bndA σ (xs.map fun x => [AV.v (.int .i64 x)]).length lo hi with | some (l, h) => if 1 = 1 then some (AV.sl 1 (((xs.map fun x => [AV.v (.int .i64 x)]).drop l).take (h - l)), []) else none | none => none) = _
  rw [List.length_map]
  cases bndA σ xs.length lo hi with
  | none => rfl
  | some p => obtain ⟨l, h⟩ := p; simp [aInts, List.map_take, List.map_drop]
@[simp ↓ high] theorem d_rows_ints (σ : AS) (xs : List Int) : σ.rows 1 (aInts xs) = some (xs.map fun x => [AV.v (.int .i64 x)]) := rfl
@[simp ↓ high] theorem d_rows_rows (σ : AS) (L : List (List Int)) : σ.rows 1 (aRows L) = some (L.map fun xs => [aInts xs]) := rfl

/-! ### What a value holds, read off -/
def toI : AV → Option Int
  | .v (.int .i64 x) => some x
  | _ => none
def rowI : List AV → Option Int
  | [.v (.int .i64 x)] => some x
  | _ => none
def toIntsL : List (List AV) → Option (List Int)
  | [] => some []
  | r :: rs => match rowI r, toIntsL rs with
    | some x, some xs => some (x :: xs)
    | _, _ => none
def toInts : AV → Option (List Int)
  | .sl 1 ys => toIntsL ys
  | .v (.slice none 0 0) => some []
  | _ => none
def rowR : List AV → Option (List Int)
  | [a] => toInts a
  | _ => none
def toRowsL : List (List AV) → Option (List (List Int))
  | [] => some []
  | r :: rs => match rowR r, toRowsL rs with
    | some x, some xs => some (x :: xs)
    | _, _ => none
def toRows : AV → Option (List (List Int))
  | .sl 1 ys => toRowsL ys
  | .v (.slice none 0 0) => some []
  | _ => none
@[simp] theorem toIntsL_map (xs : List Int) : toIntsL (xs.map fun x => [.v (.int .i64 x)]) = some xs := by
  induction xs with
  | nil => rfl
  | cons x xs ih => simp [toIntsL, rowI, ih]
@[simp] theorem toInts_ints (xs : List Int) : toInts (aInts xs) = some xs := by simp [aInts, toInts]
@[simp] theorem toRowsL_map (L : List (List Int)) : toRowsL (L.map fun xs => [aInts xs]) = some L := by
  induction L with
  | nil => rfl
  | cons x xs ih => simp [toRowsL, rowR, ih]
@[simp] theorem toRows_rows (L : List (List Int)) : toRows (aRows L) = some L := by simp [aRows, toRows]
theorem toIntsL_get : ∀ {ys : List (List AV)} {xs : List Int}, toIntsL ys = some xs → xs.length = ys.length ∧ ∀ i, i < ys.length → ys.getD i [] = [.v (.int .i64 (xs.getD i 0))]
  | [], xs, h => by simp only [toIntsL, Option.some.injEq] at h; subst h; exact ⟨rfl, fun i hi => by simp at hi⟩
  | r :: rs, xs, h => by
    simp only [toIntsL] at h
    split at h
    · rename_i x l h1 h2
      cases h
      obtain ⟨h3, h4⟩ := toIntsL_get h2
      refine ⟨by simp [h3], fun i hi => ?_⟩
      cases i with
      | zero =>
        unfold rowI at h1
        split at h1
        · cases h1; rfl
        · cases h1
      | succ i => simpa using h4 i (by simpa using hi)
    · cases h
theorem toRowsL_get : ∀ {ys : List (List AV)} {L : List (List Int)}, toRowsL ys = some L → L.length = ys.length ∧ ∀ i, i < ys.length → ∃ a, ys.getD i [] = [a] ∧ toInts a = some (L.getD i [])
  | [], xs, h => by simp only [toRowsL, Option.some.injEq] at h; subst h; exact ⟨rfl, fun i hi => by simp at hi⟩
  | r :: rs, xs, h => by
    simp only [toRowsL] at h
    split at h
    · rename_i x l h1 h2
      cases h
      obtain ⟨h3, h4⟩ := toRowsL_get h2
      refine ⟨by simp [h3], fun i hi => ?_⟩
      cases i with
      | zero =>
        unfold rowR at h1
        split at h1
        · exact ⟨_, rfl, h1⟩
        · cases h1
      | succ i => simpa using h4 i (by simpa using hi)
    · cases h

/-! ### From the abstract machine to readings -/
abbrev Any : Foot := fun _ _ _ => True
theorem at_of_cell {w : World} {b o : Nat} {u : Value} (h : w.cell? ⟨b, o, none⟩ = some u) : At Any w b o u := by
  unfold World.cell? at h
  split at h
  · rename_i c e fz hb
    exact ⟨c, e, fz, hb, h, trivial⟩
  · cases h
theorem sl1_elems {S : Nat → Nat → Option Value} {w : World} {ys : List (List AV)} {v : Value} (hS : StOk S w) (h : Rv (G0 S) (.sl 1 ys) v) :
    ∃ a n c, v = .slice a n c ∧ n = ys.length ∧ n ≤ c ∧ (a = none → c = 0) ∧ ∀ i, i < ys.length → ∃ b o u, a = some ⟨b, o, none⟩ ∧ At Any w b (o + i) u ∧ Rv (G0 S) ((ys.getD i []).getD 0 .any) u := by
  cases h with
  | sl _ _ a n c us hn hc hm h0 hz ha h1 h =>
    refine ⟨a, n, c, rfl, hn, hc, h0, fun i hi => ?_⟩
    obtain ⟨b, o, rfl, hs⟩ := ha (by omega)
    have := hs i 0 hi (by omega)
    exact ⟨b, o, us i 0, rfl, at_of_cell (hS.1 _ _ _ (by rw [← this]; congr 1; omega)), h i 0 hi (by omega)⟩
theorem ints_of {S : Nat → Nat → Option Value} {w : World} {av : AV} {v : Value} {xs : List Int} (hS : StOk S w) (h : Rv (G0 S) av v) (ht : toInts av = some xs) (hk : okInts xs = true) : Ints Any w v xs := by
  unfold toInts at ht
  split at ht
  · rename_i ys
    obtain ⟨h1, h2⟩ := toIntsL_get ht
    obtain ⟨a, n, c, rfl, hn, hc, h0, h⟩ := sl1_elems hS h
    have := okInts_len hk
    refine ⟨a, n, c, rfl, by omega, hc, by show n * 8 ≤ _; omega, h0, fun i hi => ?_⟩
    obtain ⟨b, o, u, rfl, g1, g2⟩ := h i (by omega)
    rw [h2 i (by omega)] at g2
    have g3 : u = .int .i64 (xs.getD i 0) := g2.v_eq
    have g4 : xs.getD i 0 = xs[i] := by simp [hi]
    refine ⟨b, o, [.int .i64 (xs.getD i 0)], rfl, rfl, fun j hj => ?_, by rw [g4]; exact ⟨rfl, okI_iff.1 (okInts_mem hk _ (List.getElem_mem hi))⟩⟩
    have : j = 0 := by simpa using hj
    subst this
    show At Any w b (o + i * 1 + 0) _
    rw [show o + i * 1 + 0 = o + i by omega]
    subst g3; exact g1
  · cases ht
    have := h.v_eq
    subst this
    exact ⟨none, 0, 0, rfl, rfl, Nat.le_refl _, by simp, fun _ => rfl, fun i hi => by simp at hi⟩
  · cases ht
theorem rows_of {S : Nat → Nat → Option Value} {w : World} {av : AV} {v : Value} {L : List (List Int)} (hS : StOk S w) (h : Rv (G0 S) av v) (ht : toRows av = some L) (hk : okRows L = true) : IntRows Any w v L := by
  unfold toRows at ht
  split at ht
  · rename_i ys
    obtain ⟨h1, h2⟩ := toRowsL_get ht
    obtain ⟨a, n, c, rfl, hn, hc, h0, h⟩ := sl1_elems hS h
    have := okRows_len hk
    refine ⟨a, n, c, rfl, by omega, hc, by show n * 24 ≤ _; omega, h0, fun i hi => ?_⟩
    obtain ⟨b, o, u, rfl, g1, g2⟩ := h i (by omega)
    obtain ⟨av, g3, g4⟩ := h2 i (by omega)
    rw [g3] at g2
    replace g2 : Rv (G0 S) av u := g2
    have g5 : L.getD i [] = L[i] := by simp [hi]
    refine ⟨b, o, [u], rfl, rfl, fun j hj => ?_, ints_of hS g2 (by rw [g4, g5]) (okRows_mem hk _ (List.getElem_mem hi))⟩
    have : j = 0 := by simpa using hj
    subst this
    show At Any w b (o + i * 1 + 0) _
    rw [show o + i * 1 + 0 = o + i by omega]
    simpa using g1
  · cases ht
    have := h.v_eq
    subst this
    exact ⟨none, 0, 0, rfl, rfl, Nat.le_refl _, by simp, fun _ => rfl, fun i hi => by simp at hi⟩
  · cases ht

/-! ### From readings to the abstract machine -/
theorem rv_ints {F : Foot} {w : World} {v : Value} {xs : List Int} {S : Nat → Nat → Option Value} {L : Nat → Option (Option Nat × Nat × Nat × Nat)} (h : Ints F w v xs) (hS : ∀ b o u, At F w b o u → S b o = some u) : Rv ⟨S, L⟩ (aInts xs) v := by
  obtain ⟨a, n, c, hv, hn, hc, hm, h0, he⟩ := h
  obtain rfl : v = .slice a n c := by simpa using hv
  have hm' : n * 8 ≤ 140737488355328 := hm
  refine .sl 1 _ a n c (fun i _ => .int .i64 (xs.getD i 0)) (by simpa using hn) hc (by unfold AMax; omega) h0 (fun i hi => by simp at hi; simp [List.getD, hi]) (fun hp => ?_) (fun i j hi hj => rfl) (fun i j hi hj => ?_)
  · have h0 : 0 < xs.length := by simpa using hp
    obtain ⟨b, o, raw, ha, _⟩ := he 0 h0
    refine ⟨b, o, ha, fun i j hi hj => ?_⟩
    have hi' : i < xs.length := by simpa using hi
    obtain ⟨b', o', raw, ha', h1, h2, h3⟩ := he i hi'
    rw [ha] at ha'; cases ha'
    obtain ⟨h4, h5⟩ := h3
    subst h4
    have h6 := h2 0 (by simp)
    have : j = 0 := by omega
    subst this
    refine hS _ _ _ ?_

    have h8 : (xs.getD i 0) = xs[i] := by simp [List.getD, hi']
    rw [h8]
    have h9 : o + i * eInt.size + 0 = o + i * 1 + 0 := rfl
    rw [h9] at h6; exact h6
  · have hi' : i < xs.length := by simpa using hi
    have : j = 0 := by omega
    subst this
    simp only [List.getD, List.getElem?_map, hi', List.getElem?_eq_getElem, Option.map_some, Option.getD_some, List.getElem?_cons_zero]
    exact .v _
theorem rv_rows {F : Foot} {w : World} {v : Value} {M : List (List Int)} {S : Nat → Nat → Option Value} {L : Nat → Option (Option Nat × Nat × Nat × Nat)} (h : IntRows F w v M) (hS : ∀ b o u, At F w b o u → S b o = some u) : Rv ⟨S, L⟩ (aRows M) v := by
  obtain ⟨a, n, c, hv, hn, hc, hm, h0, he⟩ := h
  obtain rfl : v = .slice a n c := by simpa using hv
  have hm' : n * 24 ≤ 140737488355328 := hm
  have key : ∀ i, i < M.length → ∃ u, (∃ b o, a = some ⟨b, o, none⟩ ∧ S b (o + i) = some u) ∧ Ints F w u (M.getD i []) ∧ u.oneCell' = true := fun i hi => by
    obtain ⟨b, o, raw, ha, h1, h2, h3⟩ := he i hi
    obtain ⟨a', n', c', h4, h5⟩ := id h3
    subst h4
    have h6 := h2 0 (by simp)
    refine ⟨.slice a' n' c', ⟨b, o, ha, hS _ _ _ ?_⟩, ?_, rfl⟩
    · have h7 : o + i * (eList eInt).size + 0 = o + i := by show o + i * 1 + 0 = o + i; omega
      rw [h7] at h6; simpa using h6
    · have : M.getD i [] = M[i] := by simp [hi]
      rw [this]; exact h3
  refine .sl 1 _ a n c (fun i _ => if hi : i < M.length then (key i hi).choose else undef) (by simpa using hn) hc (by unfold AMax; omega) h0 (fun i hi => by simp at hi; simp [List.getD, hi]) (fun hp => ?_) (fun i j hi hj => ?_) (fun i j hi hj => ?_)
  · have h0 : 0 < M.length := by simpa using hp
    obtain ⟨⟨b, o, ha, _⟩, _⟩ := (key 0 h0).choose_spec
    refine ⟨b, o, ha, fun i j hi hj => ?_⟩
    have hi' : i < M.length := by simpa using hi
    obtain ⟨⟨b', o', ha', h1⟩, _⟩ := (key i hi').choose_spec
    rw [ha] at ha'; cases ha'
    have : j = 0 := by omega
    subst this
    simp only [dif_pos hi']
    rw [← h1]; congr 1; omega
  · have hi' : i < M.length := by simpa using hi
    simp only [dif_pos hi']
    exact (key i hi').choose_spec.2.2
  · have hi' : i < M.length := by simpa using hi
    have : j = 0 := by omega
    subst this
    simp only [dif_pos hi']
    have h1 := (key i hi').choose_spec.2.1
    have h2 : ((M.map fun xs => [aInts xs]).getD i []).getD 0 .any = aInts (M.getD i []) := by simp [List.getD, hi']
    rw [h2]
    exact rv_ints h1 hS
theorem fresh_new {w : World} {B b o : Nat} {u : Value} (h : At (Fresh B) w b o u) : newS (fun b o => w.cell? ⟨b, o, none⟩) B b o = some u := by
  have h1 := h.cell
  obtain ⟨c, e, fz, _, _, hB, _⟩ := h
  unfold newS
  rw [if_neg (by omega)]; exact h1

/-! ### Arguments -/
theorem args1 {G : Gh} {a : AV} {vs : Array Value} (hn : vs.size = [a].length) (hv : ∀ i, i < [a].length → Rv G ([a].getD i .any) (vs.getD i undef)) : ∃ u, vs = #[u] ∧ Rv G a u := by
  have h0 := hv 0 (by simp)
  obtain ⟨l⟩ := vs
  match l, hn with
  | [u], _ => exact ⟨u, rfl, by simpa using h0⟩
theorem args2 {G : Gh} {a b : AV} {vs : Array Value} (hn : vs.size = [a, b].length) (hv : ∀ i, i < [a, b].length → Rv G ([a, b].getD i .any) (vs.getD i undef)) : ∃ u v, vs = #[u, v] ∧ Rv G a u ∧ Rv G b v := by
  have h0 := hv 0 (by simp)
  have h1 := hv 1 (by simp)
  obtain ⟨l⟩ := vs
  match l, hn with
  | [u, v], _ => exact ⟨u, v, rfl, by simpa using h0, by simpa using h1⟩
theorem args3 {G : Gh} {a b c : AV} {vs : Array Value} (hn : vs.size = [a, b, c].length) (hv : ∀ i, i < [a, b, c].length → Rv G ([a, b, c].getD i .any) (vs.getD i undef)) : ∃ u v z, vs = #[u, v, z] ∧ Rv G a u ∧ Rv G b v ∧ Rv G c z := by
  have h0 := hv 0 (by simp)
  have h1 := hv 1 (by simp)
  have h2 := hv 2 (by simp)
  obtain ⟨l⟩ := vs
  match l, hn with
  | [u, v, z], _ => exact ⟨u, v, z, rfl, by simpa using h0, by simpa using h1, by simpa using h2⟩
theorem rv_set {G : Gh} {s : BitVec 128} {v : Value} (h : Rv G (aSet s) v) : v = SV s := by
  obtain ⟨arr, rfl, hl, _, hcs⟩ := h.agg_inv
  have h0 := (hcs 0 (by simp)).v_eq
  have h1 := (hcs 1 (by simp)).v_eq
  obtain ⟨l⟩ := arr
  match l, hl with
  | [x, y], _ => simp at h0 h1; rw [h0, h1]
theorem set_rv {G : Gh} (s : BitVec 128) : Rv G (aSet s) (SV s) := by
  refine .agg _ [WV (lo s), WV (hi s)] rfl (fun u hu => ?_) (fun i hi => ?_)
  · simp at hu; rcases hu with rfl | rfl <;> rfl
  · match i, hi with
    | 0, _ => exact .v _
    | 1, _ => exact .v _

/-! ### Tables -/
def EntOk (P : Program) (f : FuncId) (g : List AV → Option (AV × Bool)) : Prop := fnB P f = true ∧ ∀ args r fr, g args = some (r, fr) → FnPure P f args r ∧ (fr = true → FnFresh P f args r)
def tab (l : List (FuncId × (List AV → Option (AV × Bool)))) : PTab := fun f args => match lk l f with
  | some g => g args
  | none => none
theorem tab_ok {P : Program} {l : List (FuncId × (List AV → Option (AV × Bool)))} (h : ∀ p ∈ l, EntOk P p.1 p.2) : PTok P (tab l) := fun f args r fr hf => by
  unfold tab at hf
  split at hf
  · rename_i g hg
    obtain ⟨h1, h2⟩ := h (f, g) (mem_lk hg)
    exact ⟨h1, h2 args r fr hf⟩
  · cases hf
theorem tab_old {k : FuncId} {g : List AV → Option (AV × Bool)} {l : List (FuncId × (List AV → Option (AV × Bool)))} {f : FuncId} (h : f ≠ k) : tab ((k, g) :: l) f = tab l f := by
  funext a
  unfold tab
  rw [show lk ((k, g) :: l) f = lk l f from by rw [lk]; exact if_neg (Ne.symm h)]
theorem fresh_same {P : Program} {f : FuncId} {args : List AV} {r : Value} (h : ∀ (S : Nat → Nat → Option Value) (w : World) (vs : Array Value), StOk S w → vs.size = args.length → (∀ i, i < args.length → Rv (G0 S) (args.getD i .any) (vs.getD i undef)) → Calls P f vs w fun e w' => e = .returned r ∧ w = w') : FnFresh P f args (.v r) :=
  fun S w vs hS hn hv => (h S w vs hS hn hv).mono fun e w' ⟨h1, h2⟩ => ⟨r, h1, by subst h2; exact Below.refl _ _, .v _⟩
theorem fresh_gives {P : Program} {f : FuncId} {args : List AV} {r : Value} {av : AV} (hav : ∀ G, Rv G av r) (h : ∀ (S : Nat → Nat → Option Value) (w : World) (vs : Array Value), StOk S w → vs.size = args.length → (∀ i, i < args.length → Rv (G0 S) (args.getD i .any) (vs.getD i undef)) → Calls P f vs w (Gives w r)) : FnFresh P f args av :=
  fun S w vs hS hn hv => (h S w vs hS hn hv).mono fun e w' ⟨h1, h2⟩ => ⟨r, h1, h2, hav _⟩
theorem ent_fresh {P : Program} {f : FuncId} {g : List AV → Option (AV × Bool)} (hf : fnB P f = true) (h : ∀ args r fr, g args = some (r, fr) → FnFresh P f args r) : EntOk P f g :=
  ⟨hf, fun args r fr hg => ⟨(h args r fr hg).pure, fun _ => h args r fr hg⟩⟩
theorem ent_pure {P : Program} {f : FuncId} {g : List AV → Option (AV × Bool)} (hf : fnB P f = true) (h : ∀ args r fr, g args = some (r, fr) → FnPure P f args r ∧ fr = false) : EntOk P f g :=
  ⟨hf, fun args r fr hg => ⟨(h args r fr hg).1, fun e => by rw [(h args r fr hg).2] at e; cases e⟩⟩
@[simp] theorem take_map_len {α β : Type} (f : α → β) (l : List α) : (l.map f).take l.length = l.map f := List.take_of_length_le (by simp)
@[simp] theorem fold_ints (xs : List Int) : AV.sl 1 (xs.map fun x => [AV.v (.int .i64 x)]) = aInts xs := rfl
@[simp] theorem fold_rows (L : List (List Int)) : AV.sl 1 (L.map fun xs => [aInts xs]) = aRows L := rfl
@[simp] theorem idsLL_append (xs ys : List (List AV)) : idsLL (xs ++ ys) = idsLL xs ++ idsLL ys := by
  induction xs with
  | nil => rfl
  | cons x xs ih => simp [idsLL, ih, List.append_assoc]
end Go.Proofs.YtafikekndefjcaaDoor
/- Lift2: The types of arguments: numbers, lists, rows, sets, theories; no condition. -/
namespace Go.Proofs.YtafikekndefjcaaDoor
set_option linter.unusedVariables false
set_option linter.unusedSimpArgs false
set_option linter.unusedSectionVars false
open Go.RowKit Go.WideShapes Go.ChangeShapes Go.ChangeAt

set_option maxRecDepth 100000
def okIL (xs : List Int) : Bool := xs.all okI && decide (xs.length ≤ 9223372036854775807)
def okLens (L : List (List Int)) : Bool := L.all okIL && decide (L.length ≤ 9223372036854775807)
theorem okIL_len {xs : List Int} (h : okIL xs = true) : xs.length ≤ 9223372036854775807 := by
  simp only [okIL, Bool.and_eq_true, decide_eq_true_eq] at h; exact h.2
theorem okLens_len {L : List (List Int)} (h : okLens L = true) : L.length ≤ 9223372036854775807 := by
  simp only [okLens, Bool.and_eq_true, decide_eq_true_eq] at h; exact h.2
theorem okLens_mem {L : List (List Int)} (h : okLens L = true) : ∀ c ∈ L, okIL c = true := by
  simp only [okLens, Bool.and_eq_true, List.all_eq_true] at h; exact h.1
theorem okLens_at {L : List (List Int)} (h : okLens L = true) (i : Nat) : okIL (L.getD i []) = true := by
  by_cases hi : i < L.length
  · have : L.getD i [] = L[i] := by simp [hi]
    rw [this]; exact okLens_mem h _ (List.getElem_mem hi)
  · have : L.getD i [] = [] := by simp [List.getD, List.getElem?_eq_none (by omega : L.length ≤ i)]
    rw [this]; rfl
theorem okInts_il {xs : List Int} (h : okIL xs = true) (hl : xs.length ≤ 17592186044416) : okInts xs = true := by
  simp only [okIL, okInts, Bool.and_eq_true, decide_eq_true_eq] at h ⊢; exact ⟨h.1, hl⟩
theorem okIL_ints {xs : List Int} (h : okInts xs = true) : okIL xs = true := by
  simp only [okIL, okInts, Bool.and_eq_true, decide_eq_true_eq] at h ⊢; exact ⟨h.1, by omega⟩
theorem okRows_lens {L : List (List Int)} (h : okLens L = true) (hl : L.length ≤ 5864062014805) (hc : ∀ c ∈ L, c.length ≤ 17592186044416) : okRows L = true := by
  simp only [okRows, Bool.and_eq_true, List.all_eq_true, decide_eq_true_eq]
  exact ⟨fun c hcc => okInts_il (okLens_mem h c hcc) (hc c hcc), hl⟩
theorem okLens_rows {L : List (List Int)} (h : okRows L = true) : okLens L = true := by
  simp only [okLens, Bool.and_eq_true, List.all_eq_true, decide_eq_true_eq]
  exact ⟨fun c hc => okIL_ints (okRows_mem h c hc), by have := okRows_len h; omega⟩

theorem ints_ex : ∀ (ys : List (List AV)), (∀ q ∈ ys, ∃ x, q = [AV.v (.int .i64 x)] ∧ (Lit.int .i64 x).wf = true) → ∃ xs : List Int, ys = xs.map (fun x => [AV.v (.int .i64 x)]) ∧ xs.all okI = true
  | [], _ => ⟨[], rfl, rfl⟩
  | y :: ys, h => by
    obtain ⟨x, rfl, hx⟩ := h y (by simp)
    obtain ⟨xs, rfl, hxs⟩ := ints_ex ys fun q hq => h q (List.mem_cons_of_mem _ hq)
    refine ⟨x :: xs, rfl, ?_⟩
    have := bounds_i64 hx
    simp only [List.all_cons, hxs, Bool.and_true, okI, Bool.and_eq_true, decide_eq_true_eq]
    exact this
theorem rows_ex : ∀ (ys : List (List AV)), (∀ q ∈ ys, ∃ xs, q = [aInts xs] ∧ okIL xs = true) → ∃ L : List (List Int), ys = L.map (fun xs => [aInts xs]) ∧ L.all okIL = true
  | [], _ => ⟨[], rfl, rfl⟩
  | y :: ys, h => by
    obtain ⟨xs, rfl, hx⟩ := h y (by simp)
    obtain ⟨L, rfl, hL⟩ := rows_ex ys fun q hq => h q (List.mem_cons_of_mem _ hq)
    exact ⟨xs :: L, rfl, by simp [hx, hL]⟩
section
variable {H : Type} {enc : TypeId × Value → H} {W : World}
theorem opens_i64 : Opens enc Tryd.prog W 3 (fun r => ∃ x, r = [.v (.int .i64 x)] ∧ okI x = true) :=
  (opens_int Tryd.underlying3).mono fun r h => by
    obtain ⟨x, rfl, hx⟩ := h
    refine ⟨x, rfl, ?_⟩
    have := bounds_i64 hx
    simp only [okI, Bool.and_eq_true, decide_eq_true_eq]; exact this
theorem opens_ints : Opens enc Tryd.prog W 28 (fun r => ∃ xs, r = [aInts xs] ∧ okIL xs = true) :=
  (opens_slice (sz := 1) Tryd.underlying28 (by kernel_rfl) (by omega) (opens_int Tryd.underlying3)).mono fun r h => by
    obtain ⟨ys, rfl, hl, hy⟩ := h
    obtain ⟨xs, rfl, hx⟩ := ints_ex ys hy
    refine ⟨xs, rfl, ?_⟩
    simp only [okIL, hx, Bool.true_and, decide_eq_true_eq]
    simpa [AMax] using hl
theorem opens_rows : Opens enc Tryd.prog W 22 (fun r => ∃ L, r = [aRows L] ∧ okLens L = true) :=
  (opens_slice (sz := 1) Tryd.underlying22 (by kernel_rfl) (by omega) opens_ints).mono fun r h => by
    obtain ⟨ys, rfl, hl, hy⟩ := h
    obtain ⟨L, rfl, hx⟩ := rows_ex ys hy
    refine ⟨L, rfl, ?_⟩
    simp only [okLens, hx, Bool.true_and, decide_eq_true_eq]
    simpa [AMax] using hl
theorem opens_th : Opens enc Tryd.prog W 24 (fun r => ∃ N L, r = [.v (.int .i64 N), aRows L] ∧ okI N = true ∧ okLens L = true) :=
  (opens_st2 (t0 := 3) (t1 := 22) (c0 := 1) (c1 := 1) Tryd.underlying24 rfl rfl rfl rfl (by kernel_rfl) (by kernel_rfl) (by kernel_rfl) opens_i64 opens_rows).mono fun r h => by
    obtain ⟨_, _, rfl, ⟨N, rfl, hN⟩, L, rfl, hL⟩ := h
    exact ⟨N, L, rfl, hN, hL⟩
theorem arg_th {base : Nat} {sp : Nat → Bool} {held : Bool} {v : Value} {d : DataW H} {p : List MemPlace} (hval : Value.okWide Tryd.prog W .any base 24 v) (h : DataW.Trod enc Tryd.prog W 0 sp held 24 v d p) :
    ∃ N L, Rv (G0 (allS W)) (.agg [.v (.int .i64 N), aRows L]) v ∧ okI N = true ∧ okLens L = true := by
  obtain ⟨row, h1, N, L, rfl, h2, h3⟩ := arg_agg (.inl ⟨_, Tryd.underlying24⟩) hval h opens_th
  exact ⟨N, L, h1, h2, h3⟩
theorem arg_i64 {base : Nat} {sp : Nat → Bool} {held : Bool} {v : Value} {d : DataW H} {p : List MemPlace} (hval : Value.okWide Tryd.prog W .any base 3 v) (h : DataW.Trod enc Tryd.prog W 0 sp held 3 v d p) :
    ∃ x, Rv (G0 (allS W)) (.v (.int .i64 x)) v ∧ okI x = true := by
  obtain ⟨a, h1, x, h2, h3⟩ := arg_one (cells_int Tryd.underlying3 hval) h opens_i64
  cases h2
  exact ⟨x, h1, h3⟩
theorem arg_ints {base : Nat} {sp : Nat → Bool} {held : Bool} {v : Value} {d : DataW H} {p : List MemPlace} (hval : Value.okWide Tryd.prog W .any base 28 v) (h : DataW.Trod enc Tryd.prog W 0 sp held 28 v d p) :
    ∃ xs, Rv (G0 (allS W)) (aInts xs) v ∧ okIL xs = true := by
  obtain ⟨a, h1, x, h2, h3⟩ := arg_one (cells_slice Tryd.underlying28 hval) h opens_ints
  cases h2
  exact ⟨x, h1, h3⟩
theorem wv_ofInt {x : Int} (h0 : 0 ≤ x) (h1 : x ≤ 18446744073709551615) : WV (BitVec.ofInt 64 x) = .int .u64 x := by
  unfold WV
  congr 1
  rw [BitVec.toNat_ofInt]
  omega
theorem opens_set : Opens enc Tryd.prog W 45 (fun r => ∃ s : BitVec 128, r = [.v (WV (lo s)), .v (WV (hi s))]) :=
  (opens_arr2 (e := 41) (c := 1) Tryd.underlying45 (by kernel_rfl) (by kernel_rfl) (opens_int Tryd.underlying41)).mono fun r h => by
    obtain ⟨_, _, rfl, ⟨x, rfl, hx⟩, y, rfl, hy⟩ := h
    have h1 := bounds_u64 hx
    have h2 := bounds_u64 hy
    refine ⟨BitVec.ofInt 64 y ++ BitVec.ofInt 64 x, ?_⟩
    have e1 : lo (BitVec.ofInt 64 y ++ BitVec.ofInt 64 x) = BitVec.ofInt 64 x := by
      apply BitVec.eq_of_getLsbD_eq
      intro i hi
      rw [lo_bit, BitVec.getLsbD_append]
      simp [hi]
    have e2 : hi (BitVec.ofInt 64 y ++ BitVec.ofInt 64 x) = BitVec.ofInt 64 y := by
      apply BitVec.eq_of_getLsbD_eq
      intro i hi'
      rw [hi_bit, BitVec.getLsbD_append]
      simp [hi']
    rw [e1, e2, wv_ofInt h1.1 h1.2, wv_ofInt h2.1 h2.2]
    rfl
theorem arg_set {base : Nat} {sp : Nat → Bool} {held : Bool} {v : Value} {d : DataW H} {p : List MemPlace} (hval : Value.okWide Tryd.prog W .any base 45 v) (h : DataW.Trod enc Tryd.prog W 0 sp held 45 v d p) :
    ∃ s : BitVec 128, Rv (G0 (allS W)) (aSet s) v := by
  obtain ⟨row, h1, s, rfl⟩ := arg_agg (.inr ⟨_, _, Tryd.underlying45⟩) hval h opens_set
  exact ⟨s, h1⟩
theorem arg_u8 {base : Nat} {sp : Nat → Bool} {held : Bool} {v : Value} {d : DataW H} {p : List MemPlace} (hval : Value.okWide Tryd.prog W .any base 5 v) (h : DataW.Trod enc Tryd.prog W 0 sp held 5 v d p) :
    ∃ x : Int, Rv (G0 (allS W)) (.v (.int .u8 x)) v ∧ 0 ≤ x ∧ x ≤ 255 := by
  obtain ⟨a, h1, x, h2, h3⟩ := arg_one (cells_int Tryd.underlying5 hval) h (opens_int Tryd.underlying5)
  cases h2
  exact ⟨x, h1, bounds_u8 h3⟩
theorem arg_u16 {base : Nat} {sp : Nat → Bool} {held : Bool} {v : Value} {d : DataW H} {p : List MemPlace} (hval : Value.okWide Tryd.prog W .any base 65 v) (h : DataW.Trod enc Tryd.prog W 0 sp held 65 v d p) :
    ∃ x : Int, Rv (G0 (allS W)) (.v (.int .u16 x)) v ∧ 0 ≤ x ∧ x ≤ 65535 := by
  obtain ⟨a, h1, x, h2, h3⟩ := arg_one (cells_int Tryd.underlying65 hval) h (opens_int Tryd.underlying65)
  cases h2
  exact ⟨x, h1, bounds_u16 h3⟩
end
end Go.Proofs.YtafikekndefjcaaDoor
/- Pt1: The table of proved functions, first part: old contracts; no condition. -/
namespace Go.Proofs.YtafikekndefjcaaDoor
set_option linter.unusedVariables false
set_option linter.unusedSimpArgs false
set_option linter.unusedSectionVars false
open Go.RowKit

def toSet : AV → Option (BitVec 128)
  | .agg [.v (.int .u64 (.ofNat a)), .v (.int .u64 (.ofNat b))] => if (BitVec.ofNat 64 a).toNat = a ∧ (BitVec.ofNat 64 b).toNat = b then some (BitVec.ofNat 64 b ++ BitVec.ofNat 64 a) else none
  | _ => none
theorem append_words (s : BitVec 128) : hi s ++ lo s = s := by
  apply BitVec.eq_of_getLsbD_eq
  intro k hk
  rw [BitVec.getLsbD_append]
  by_cases h : k < 64
  · simp only [h, if_true, lo_bit, decide_true, Bool.true_and]
  · simp only [h, decide_false, Bool.false_eq_true, if_false, hi_bit]
    simp [show k - 64 < 64 by omega, show 64 + (k - 64) = k by omega]
theorem ofNat_cast (x : BitVec 64) : BitVec.ofNat 64 ((x.toNat : Int)).toNat = x := by simp
@[simp] theorem toSet_words (s : BitVec 128) : toSet (.agg [.v (.int .u64 ((lo s).toNat : Int)), .v (.int .u64 ((hi s).toNat : Int))]) = some s := by
  show (if (BitVec.ofNat 64 (lo s).toNat).toNat = (lo s).toNat ∧ (BitVec.ofNat 64 (hi s).toNat).toNat = (hi s).toNat then some (BitVec.ofNat 64 (hi s).toNat ++ BitVec.ofNat 64 (lo s).toNat) else none) = some s
  have e1 : BitVec.ofNat 64 (lo s).toNat = lo s := by simp
  have e2 : BitVec.ofNat 64 (hi s).toNat = hi s := by simp
  rw [e1, e2, if_pos ⟨rfl, rfl⟩, append_words]
@[simp] theorem toSet_set (s : BitVec 128) : toSet (aSet s) = some s := toSet_words s
theorem lo_append (x y : BitVec 64) : lo (y ++ x) = x := by
  apply BitVec.eq_of_getLsbD_eq
  intro k hk
  rw [lo_bit, BitVec.getLsbD_append]
  simp [hk]
theorem hi_append (x y : BitVec 64) : hi (y ++ x) = y := by
  apply BitVec.eq_of_getLsbD_eq
  intro k hk
  rw [hi_bit, BitVec.getLsbD_append]
  simp [hk, show ¬ (64 + k < 64) by omega]
theorem toSet_inv {av : AV} {s : BitVec 128} (h : toSet av = some s) : av = aSet s := by
  unfold toSet at h
  split at h
  · split at h
    · rename_i a b hc
      cases h
      unfold aSet WV
      rw [lo_append, hi_append, hc.1, hc.2]
      rfl
    · cases h
  · cases h
theorem toSet_rv {G : Gh} {av : AV} {s : BitVec 128} {v : Value} (h : toSet av = some s) (hv : Rv G av v) : v = SV s := rv_set (toSet_inv h ▸ hv)
theorem th_inv {G : Gh} {N : Int} {a : AV} {v : Value} (h : Rv G (.agg [.v (.int .i64 N), a]) v) : ∃ u, v = .agg #[.int .i64 N, u] ∧ Rv G a u := by
  obtain ⟨arr, rfl, hl, _, hcs⟩ := h.agg_inv
  have h0 := (hcs 0 (by simp)).v_eq
  have h1 := hcs 1 (by simp)
  obtain ⟨l⟩ := arr
  match l, hl with
  | [x, y], _ => simp at h0 h1; subst h0; exact ⟨y, rfl, h1⟩
@[simp] theorem okI_lit (n : Nat) : okI (@OfNat.ofNat Int n instOfNat) = decide (n ≤ 9223372036854775807) := by
  have : (@OfNat.ofNat Int n instOfNat) = (n : Int) := rfl
  rw [this]
  simp only [okI, Bool.and_eq_decide, decide_eq_decide, decide_eq_true_eq]
  omega
@[simp] theorem okI_nlit (n : Nat) : okI (-(@OfNat.ofNat Int n instOfNat)) = decide (n ≤ 9223372036854775808) := by
  have : (@OfNat.ofNat Int n instOfNat) = (n : Int) := rfl
  rw [this]
  simp only [okI, Bool.and_eq_decide, decide_eq_decide, decide_eq_true_eq]
  omega
@[simp] theorem okInts_nil : okInts [] = true := rfl
@[simp] theorem okRows_nil : okRows [] = true := rfl
def okL (xs : List Int) : Bool := xs.all fun y => decide (-128 ≤ y) && decide (y ≤ 128)
theorem okL_iff {xs : List Int} : okL xs = true ↔ ∀ y ∈ xs, -128 ≤ y ∧ y ≤ 128 := by simp [okL]

/-! ### Arguments in other words -/
def Cov (a b : AV) : Prop := ∀ (S : Nat → Nat → Option Value) (v : Value), Rv (G0 S) a v → Rv (G0 S) b v
theorem Cov.refl (a : AV) : Cov a a := fun _ _ h => h
theorem toIntsL_inv : ∀ {ys : List (List AV)} {xs : List Int}, toIntsL ys = some xs → ys = xs.map fun x => [.v (.int .i64 x)]
  | [], xs, h => by simp only [toIntsL, Option.some.injEq] at h; subst h; rfl
  | r :: rs, xs, h => by
    simp only [toIntsL] at h
    split at h
    · rename_i x l h1 h2
      cases h
      unfold rowI at h1
      split at h1
      · cases h1; rw [List.map_cons, ← toIntsL_inv h2]
      · cases h1
    · cases h
theorem rv_nil {G : Gh} (sz : Nat) : Rv G (.sl sz []) (.slice none 0 0) := .sl sz [] none 0 0 (fun _ _ => undef) rfl (Nat.le_refl _) (by unfold AMax; omega) (fun _ => rfl) (fun i hi => by simp at hi) (fun h => by simp at h) (fun i j hi => by simp at hi) (fun i j hi => by simp at hi)
theorem cov_ints {a : AV} {xs : List Int} (h : toInts a = some xs) : Cov a (aInts xs) := fun S v hv => by
  unfold toInts at h
  split at h
  · rw [toIntsL_inv h] at hv; exact hv
  · cases h; rw [hv.v_eq]; exact rv_nil 1
  · cases h
theorem cov_rows {a : AV} {L : List (List Int)} (h : toRows a = some L) : Cov a (aRows L) := fun S v hv => by
  unfold toRows at h
  split at h
  · rename_i ys
    obtain ⟨h1, h2⟩ := toRowsL_get h
    cases hv with
    | sl _ _ b n c us hn hc hm h0 hz ha h3 h4 =>
      refine .sl 1 _ b n c us (by simp; omega) hc hm h0 (fun i hi => by simp at hi; simp [List.getD, hi]) (fun hp => ?_) (fun i j hi hj => h3 i j (by simp at hi; omega) hj) (fun i j hi hj => ?_)
      · obtain ⟨b', o, e, h5⟩ := ha (by simp at hp; omega)
        exact ⟨b', o, e, fun i j hi hj => h5 i j (by simp at hi; omega) hj⟩
      · have hi' : i < L.length := by simpa using hi
        have hj0 : j = 0 := by omega
        subst hj0
        have h6 := h4 i 0 (by omega) hj
        obtain ⟨a', g1, g2⟩ := h2 i (by omega)
        rw [g1] at h6
        have h7 := cov_ints g2 S _ h6
        simpa [List.getD, hi'] using h7
  · cases h; rw [hv.v_eq]; exact rv_nil 1
  · cases h
theorem cov_th {a b : AV} (N : Int) (h : Cov a b) : Cov (.agg [.v (.int .i64 N), a]) (.agg [.v (.int .i64 N), b]) := fun S v hv => by
  cases hv with
  | agg _ us hl h1 h2 =>
    refine .agg _ us hl h1 fun i hi => ?_
    match i, hi with
    | 0, hi => exact h2 0 hi
    | 1, hi => exact h S _ (h2 1 hi)
inductive CovL : List AV → List AV → Prop
  | nil : CovL [] []
  | cons {a b : AV} {l m : List AV} : Cov a b → CovL l m → CovL (a :: l) (b :: m)
theorem CovL.get {l m : List AV} (h : CovL l m) : l.length = m.length ∧ ∀ i, i < m.length → Cov (l.getD i .any) (m.getD i .any) := by
  induction h with
  | nil => exact ⟨rfl, fun i hi => by simp at hi⟩
  | cons h1 _ ih =>
    refine ⟨by simp [ih.1], fun i hi => ?_⟩
    cases i with
    | zero => exact h1
    | succ i => simpa using ih.2 i (by simpa using hi)
theorem FnPure.cov {P : Program} {f : FuncId} {args args' : List AV} {r : AV} (h : FnPure P f args' r) (hc : CovL args args') : FnPure P f args r := fun S w vs hS hn hv =>
  h S w vs hS (by rw [hn, hc.get.1]) fun i hi => hc.get.2 i hi S _ (hv i (by rw [hc.get.1]; exact hi))
theorem FnFresh.cov {P : Program} {f : FuncId} {args args' : List AV} {r : AV} (h : FnFresh P f args' r) (hc : CovL args args') : FnFresh P f args r := fun S w vs hS hn hv =>
  h S w vs hS (by rw [hn, hc.get.1]) fun i hi => hc.get.2 i hi S _ (hv i (by rw [hc.get.1]; exact hi))

@[simp] def g_litVar : List AV → Option (AV × Bool)
  | [.v (.int .i64 l)] => if (okI l) = true then some (.v (.int .i64 (litVar l)), true) else none
  | _ => none
theorem e_litVar : EntOk Tryd.prog 37 g_litVar := ent_fresh (by kernel_rfl) fun args r fr h => by
  unfold g_litVar at h
  split at h
  · rename_i l
    split at h
    · rename_i hc
      have o0 := hc
      cases h
      exact fresh_same fun S w vs hS hn hv => by
        obtain ⟨u0, rfl, r0⟩ := args1 hn hv
        have q0 := r0.v_eq
        subst q0
        exact litVar_c l w (okI_iff.1 o0)
    · cases h
  · cases h

@[simp] def g_litValid : List AV → Option (AV × Bool)
  | [.v (.int .i64 l), .v (.int .i64 n)] => if (okI l && okI n) = true then some (.v (.bool (litOk l n)), true) else none
  | _ => none
theorem e_litValid : EntOk Tryd.prog 60 g_litValid := ent_fresh (by kernel_rfl) fun args r fr h => by
  unfold g_litValid at h
  split at h
  · rename_i l n
    split at h
    · rename_i hc
      simp only [Bool.and_eq_true] at hc
      obtain ⟨o0, o1⟩ := hc
      cases h
      exact fresh_same fun S w vs hS hn hv => by
        obtain ⟨u0, u1, rfl, r0, r1⟩ := args2 hn hv
        have q0 := r0.v_eq
        subst q0
        have q1 := r1.v_eq
        subst q1
        exact litValid_c l n w (okI_iff.1 o0)
    · cases h
  · cases h

@[simp] def g_check : List AV → Option (AV × Bool)
  | [.agg [.v (.int .i64 N), a0]] => (match toRows a0 with | some L => if (okI N && okRows L) = true then some (.v (.int .i64 (checkT N L)), true) else none | none => none)
  | _ => none
theorem e_check : EntOk Tryd.prog 41 g_check := ent_fresh (by kernel_rfl) fun args r fr h => by
  unfold g_check at h
  split at h
  · rename_i N a0
    split at h
    · rename_i L t0
      split at h
      · rename_i hc
        simp only [Bool.and_eq_true] at hc
        obtain ⟨m0, o0⟩ := hc
        cases h
        exact fresh_gives (fun G => .v _) fun S w vs hS hn hv => by
          obtain ⟨u0, rfl, r0⟩ := args1 hn hv
          obtain ⟨z0, q0, p0⟩ := th_inv r0
          subst q0
          have q0 := rows_of hS p0 t0 o0
          exact theoryCheck_c N (okI_iff.1 m0) q0
      · cases h
    · cases h
  · cases h

@[simp] def g_with : List AV → Option (AV × Bool)
  | [a0, .v (.int .i64 v)] => (match toSet a0 with | some s => if (okI v) = true then some (aSet (sWith s v), true) else none | none => none)
  | _ => none
theorem e_with : EntOk Tryd.prog 55 g_with := ent_fresh (by kernel_rfl) fun args r fr h => by
  unfold g_with at h
  split at h
  · rename_i a0 v
    split at h
    · rename_i s t0
      split at h
      · rename_i hc
        have o1 := hc
        cases h
        exact fresh_gives (fun G => set_rv _) fun S w vs hS hn hv => by
          obtain ⟨u0, u1, rfl, r0, r1⟩ := args2 hn hv
          have q0 := toSet_rv t0 r0
          subst q0
          have q1 := r1.v_eq
          subst q1
          exact with_c s v w
      · cases h
    · cases h
  · cases h

@[simp] def g_all : List AV → Option (AV × Bool)
  | [.v (.int .i64 n)] => if (okI n) = true then some (aSet (sAll n), true) else none
  | _ => none
theorem e_all : EntOk Tryd.prog 43 g_all := ent_fresh (by kernel_rfl) fun args r fr h => by
  unfold g_all at h
  split at h
  · rename_i n
    split at h
    · rename_i hc
      have o0 := hc
      cases h
      exact fresh_gives (fun G => set_rv _) fun S w vs hS hn hv => by
        obtain ⟨u0, rfl, r0⟩ := args1 hn hv
        have q0 := r0.v_eq
        subst q0
        exact all_c n w
    · cases h
  · cases h

@[simp] def g_rValid : List AV → Option (AV × Bool)
  | [.v (.int .i64 l), .v (.int .i64 n)] => if (okI l && okI n && (decide (0 ≤ n) && decide (n ≤ 128))) = true then some (.v (.bool (litOk l n)), true) else none
  | _ => none
theorem e_rValid : EntOk Tryd.prog 75 g_rValid := ent_fresh (by kernel_rfl) fun args r fr h => by
  unfold g_rValid at h
  split at h
  · rename_i l n
    split at h
    · rename_i hc
      simp only [Bool.and_eq_true] at hc
      obtain ⟨⟨o0, o1⟩, hk⟩ := hc
      cases h
      exact fresh_same fun S w vs hS hn hv => by
        obtain ⟨u0, u1, rfl, r0, r1⟩ := args2 hn hv
        have q0 := r0.v_eq
        subst q0
        have q1 := r1.v_eq
        subst q1
        exact ref05Valid_c l n w (okI_iff.1 o0) (by simp at hk; exact hk.1) (by simp at hk; exact hk.2)
    · cases h
  · cases h

@[simp] def g_rHas : List AV → Option (AV × Bool)
  | [a0, .v (.int .i64 v)] => (match toSet a0 with | some s => if (okI v) = true then some (.v (.bool (sHas s v)), true) else none | none => none)
  | _ => none
theorem e_rHas : EntOk Tryd.prog 40 g_rHas := ent_fresh (by kernel_rfl) fun args r fr h => by
  unfold g_rHas at h
  split at h
  · rename_i a0 v
    split at h
    · rename_i s t0
      split at h
      · rename_i hc
        have o1 := hc
        cases h
        exact fresh_gives (fun G => .v _) fun S w vs hS hn hv => by
          obtain ⟨u0, u1, rfl, r0, r1⟩ := args2 hn hv
          have q0 := toSet_rv t0 r0
          subst q0
          have q1 := r1.v_eq
          subst q1
          exact ref05Has_c s v w
      · cases h
    · cases h
  · cases h

@[simp] def g_rCheck : List AV → Option (AV × Bool)
  | [.agg [.v (.int .i64 N), a0]] => (match toRows a0 with | some L => if (okI N && okRows L) = true then some (.v (.int .i64 (checkT N L)), true) else none | none => none)
  | _ => none
theorem e_rCheck : EntOk Tryd.prog 56 g_rCheck := ent_fresh (by kernel_rfl) fun args r fr h => by
  unfold g_rCheck at h
  split at h
  · rename_i N a0
    split at h
    · rename_i L t0
      split at h
      · rename_i hc
        simp only [Bool.and_eq_true] at hc
        obtain ⟨m0, o0⟩ := hc
        cases h
        exact fresh_gives (fun G => .v _) fun S w vs hS hn hv => by
          obtain ⟨u0, rfl, r0⟩ := args1 hn hv
          obtain ⟨z0, q0, p0⟩ := th_inv r0
          subst q0
          have q0 := rows_of hS p0 t0 o0
          exact ref05Check_c N (okI_iff.1 m0) q0
      · cases h
    · cases h
  · cases h

@[simp] def g_litvalid : List AV → Option (AV × Bool)
  | [a0, .v (.int .i64 n)] => (match toInts a0 with | some xs => if (okInts xs && okI n) = true then some (.v (.bool (xs.all fun y => litOk y n)), true) else none | none => none)
  | _ => none
theorem e_litvalid : EntOk Tryd.prog 66 g_litvalid := ent_fresh (by kernel_rfl) fun args r fr h => by
  unfold g_litvalid at h
  split at h
  · rename_i a0 n
    split at h
    · rename_i xs t0
      split at h
      · rename_i hc
        simp only [Bool.and_eq_true] at hc
        obtain ⟨o0, o1⟩ := hc
        cases h
        exact fresh_gives (fun G => .v _) fun S w vs hS hn hv => by
          obtain ⟨u0, u1, rfl, r0, r1⟩ := args2 hn hv
          have q0 := ints_of hS r0 t0 o0
          have q1 := r1.v_eq
          subst q1
          exact litvalid_c n q0
      · cases h
    · cases h
  · cases h

@[simp] def g_opposite : List AV → Option (AV × Bool)
  | [a0] => (match toInts a0 with | some xs => if (okInts xs && okL xs) = true then some (.v (.bool (adjOpp xs)), true) else none | none => none)
  | _ => none
theorem e_opposite : EntOk Tryd.prog 68 g_opposite := ent_fresh (by kernel_rfl) fun args r fr h => by
  unfold g_opposite at h
  split at h
  · rename_i a0
    split at h
    · rename_i xs t0
      split at h
      · rename_i hc
        simp only [Bool.and_eq_true] at hc
        obtain ⟨o0, hk⟩ := hc
        cases h
        exact fresh_gives (fun G => .v _) fun S w vs hS hn hv => by
          obtain ⟨u0, rfl, r0⟩ := args1 hn hv
          have q0 := ints_of hS r0 t0 o0
          exact litopposite_c q0 (okL_iff.1 hk)
      · cases h
    · cases h
  · cases h

@[simp] def g_clone : List AV → Option (AV × Bool)
  | [a0] => (match toInts a0 with | some xs => if (okInts xs) = true then some (aInts xs, true) else none | none => none)
  | _ => none
theorem e_clone : EntOk Tryd.prog 81 g_clone := ent_fresh (by kernel_rfl) fun args r fr h => by
  unfold g_clone at h
  split at h
  · rename_i a0
    split at h
    · rename_i xs t0
      split at h
      · rename_i hc
        have o0 := hc
        cases h
        exact fun S w vs hS hn hv => by
          obtain ⟨u0, rfl, r0⟩ := args1 hn hv
          have q0 := ints_of hS r0 t0 o0
          exact (clone_c q0).mono fun e w2 h2 => by obtain ⟨v2, rfl, h3, h4⟩ := h2; exact ⟨v2, rfl, h4, rv_ints (h3.ints (okInts_len o0)) fun _ _ _ h => fresh_new h⟩
      · cases h
    · cases h
  · cases h

@[simp] def g_order : List AV → Option (AV × Bool)
  | [a0] => (match toInts a0 with | some xs => if (okInts xs && okL xs) = true then some (aInts (orderL xs), true) else none | none => none)
  | _ => none
theorem e_order : EntOk Tryd.prog 67 g_order := ent_fresh (by kernel_rfl) fun args r fr h => by
  unfold g_order at h
  split at h
  · rename_i a0
    split at h
    · rename_i xs t0
      split at h
      · rename_i hc
        simp only [Bool.and_eq_true] at hc
        obtain ⟨o0, hk⟩ := hc
        cases h
        exact fun S w vs hS hn hv => by
          obtain ⟨u0, rfl, r0⟩ := args1 hn hv
          have q0 := ints_of hS r0 t0 o0
          exact (order_c q0 (okL_iff.1 hk)).mono fun e w2 h2 => by obtain ⟨v2, rfl, h3, h4⟩ := h2; exact ⟨v2, rfl, h4, rv_ints (h3.ints (Nat.le_trans (orderL_len xs) (okInts_len o0))) fun _ _ _ h => fresh_new h⟩
      · cases h
    · cases h
  · cases h

theorem ent_nil {P : Program} : ∀ p ∈ ([] : List (FuncId × (List AV → Option (AV × Bool)))), EntOk P p.1 p.2 := fun p h => by cases h
theorem ent_cons {P : Program} {f : FuncId} {g : List AV → Option (AV × Bool)} {l : List (FuncId × (List AV → Option (AV × Bool)))} (h : EntOk P f g) (hl : ∀ p ∈ l, EntOk P p.1 p.2) : ∀ p ∈ (f, g) :: l, EntOk P p.1 p.2 := fun p hp => by
  rcases List.mem_cons.1 hp with rfl | hp
  · exact h
  · exact hl p hp
theorem prog_mixed : Tryd.prog.follows .mixedOrders = true := by kernel_rfl
def l1 : List (FuncId × (List AV → Option (AV × Bool))) :=
  (37, g_litVar) :: (60, g_litValid) :: (41, g_check) :: (55, g_with) :: (43, g_all) :: (75, g_rValid) :: (40, g_rHas) :: (56, g_rCheck) :: (66, g_litvalid) :: (68, g_opposite) :: (81, g_clone) :: (67, g_order) :: []
theorem l1_ok : ∀ p ∈ l1, EntOk Tryd.prog p.1 p.2 := ent_cons e_litVar (ent_cons e_litValid (ent_cons e_check (ent_cons e_with (ent_cons e_all (ent_cons e_rValid (ent_cons e_rHas (ent_cons e_rCheck (ent_cons e_litvalid (ent_cons e_opposite (ent_cons e_clone (ent_cons e_order (ent_nil))))))))))))
def PT1 : PTab := tab l1
theorem PT1_ok : PTok Tryd.prog PT1 := tab_ok l1_ok
@[simp] theorem PT1_litVar : PT1 37 = g_litVar := rfl
@[simp] theorem PT1_litValid : PT1 60 = g_litValid := rfl
@[simp] theorem PT1_check : PT1 41 = g_check := rfl
@[simp] theorem PT1_with : PT1 55 = g_with := rfl
@[simp] theorem PT1_all : PT1 43 = g_all := rfl
@[simp] theorem PT1_rValid : PT1 75 = g_rValid := rfl
@[simp] theorem PT1_rHas : PT1 40 = g_rHas := rfl
@[simp] theorem PT1_rCheck : PT1 56 = g_rCheck := rfl
@[simp] theorem PT1_litvalid : PT1 66 = g_litvalid := rfl
@[simp] theorem PT1_opposite : PT1 68 = g_opposite := rfl
@[simp] theorem PT1_clone : PT1 81 = g_clone := rfl
@[simp] theorem PT1_order : PT1 67 = g_order := rfl
end Go.Proofs.YtafikekndefjcaaDoor
