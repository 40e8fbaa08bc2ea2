/- Readings of slices and structs as lists, with a footprint of blocks; plain lemmas over any program; no condition. -/
import Derived.WalkKit
import Derived.WalkSpells
import Derived.WalkLawsBesides
import Derived.Lib.Hide
namespace Go.Proofs.Ytkollnaojpppcaa
open Go.RowKit

/-- Which blocks may be read: the block's number, its element type, its frozen range. -/
abbrev Foot := Nat → TypeId → Nat × Nat → Prop

/-- An int of Go. -/
def I64 (x : Int) : Prop := -9223372036854775808 ≤ x ∧ x ≤ 9223372036854775807

/-- A cell that is read. -/
def At (F : Foot) (w : World) (b o : Nat) (v : Value) : Prop :=
  ∃ c e fz, w.heap[b]? = some (.cells c e fz) ∧ c[o]? = some v ∧ F b e fz

theorem At.cell {F : Foot} {w : World} {b o : Nat} {v : Value} (h : At F w b o v) : w.cell? ⟨b, o, none⟩ = some v := by
  obtain ⟨c, e, fz, h1, h2, _⟩ := h
  simp [World.cell?, h1, h2]

theorem At.lt {F : Foot} {w : World} {b o : Nat} {v : Value} (h : At F w b o v) : b < w.heap.size := by
  obtain ⟨c, e, fz, h1, _, _⟩ := h
  exact (Array.getElem?_eq_some_iff.1 h1).1

/-- What is read stays. -/
def Keeps (F : Foot) (w w' : World) : Prop :=
  ∀ b c e fz, w.heap[b]? = some (.cells c e fz) → F b e fz → w'.heap[b]? = some (.cells c e fz)

theorem Keeps.refl (F : Foot) (w : World) : Keeps F w w := fun _ _ _ _ h _ => h
theorem Keeps.trans {F : Foot} {a b c : World} (h : Keeps F a b) (k : Keeps F b c) : Keeps F a c := fun _ _ _ _ h1 h2 => k _ _ _ _ (h _ _ _ _ h1 h2) h2

theorem At.mono {F : Foot} {w w' : World} {b o : Nat} {v : Value} (h : At F w b o v) (k : Keeps F w w') : At F w' b o v := by
  obtain ⟨c, e, fz, h1, h2, h3⟩ := h
  exact ⟨c, e, fz, k _ _ _ _ h1 h3, h2, h3⟩

theorem At.weak {F F' : Foot} {w : World} {b o : Nat} {v : Value} (h : At F w b o v) (k : ∀ b e fz, b < w.heap.size → F b e fz → F' b e fz) : At F' w b o v := by
  have hl := h.lt
  obtain ⟨c, e, fz, h1, h2, h3⟩ := h
  exact ⟨c, e, fz, h1, h2, k _ _ _ hl h3⟩

/-- How a Lean value lies in cells. -/
structure Enc (α : Type) where
  size : Nat
  bytes : Nat
  rep : Foot → World → α → List Value → Prop
  len : ∀ {F w x cs}, rep F w x cs → cs.length = size
  mono : ∀ {F w w' x cs}, rep F w x cs → Keeps F w w' → rep F w' x cs
  weak : ∀ {F F' w x cs}, rep F w x cs → (∀ b e fz, b < w.heap.size → F b e fz → F' b e fz) → rep F' w x cs

theorem Enc.below {α : Type} (E : Enc α) {F : Foot} {w w' : World} {x : α} {cs : List Value} (h : E.rep F w x cs) (hb : Below w.heap.size w w') : E.rep F w' x cs := by
  have h1 : E.rep (fun b e fz => F b e fz ∧ b < w.heap.size) w x cs := E.weak h (fun b e fz hl hf => ⟨hf, hl⟩)
  have h2 := E.mono h1 (w' := w') (fun b c e fz hh hf => by rw [hb.block b hf.2]; exact hh)
  exact E.weak h2 (fun b e fz _ hf => hf.1)

/-- Old cells: an argument's, below a block number. -/
theorem Enc.lows {α : Type} (E : Enc α) {F : Foot} {w : World} {x : α} {cs : List Value} (h : E.rep F w x cs) : E.rep (fun b e fz => F b e fz ∧ b < w.heap.size) w x cs :=
  E.weak h (fun _ _ _ hl hf => ⟨hf, hl⟩)

/-- One integer. -/
def eInt : Enc Int where
  size := 1
  bytes := 8
  rep _ _ x cs := cs = [.int .i64 x] ∧ I64 x
  len h := by rw [h.1]; rfl
  mono h _ := h
  weak h _ := h

/-- The longest list of ints. -/
def LenMax : Nat := 17592186044416

/-- The elements of a slice, one by one. -/
def Elems {α : Type} (E : Enc α) (F : Foot) (w : World) (a : Option Addr) (xs : List α) : Prop :=
  ∀ (i : Nat) (h : i < xs.length), ∃ b o raw, a = some ⟨b, o, none⟩ ∧ raw.length = E.size ∧ (∀ (j : Nat) (hj : j < raw.length), At F w b (o + i * E.size + j) raw[j]) ∧ E.rep F w xs[i] raw

theorem Elems.mono {α : Type} {E : Enc α} {F : Foot} {w w' : World} {a : Option Addr} {xs : List α} (h : Elems E F w a xs) (k : Keeps F w w') : Elems E F w' a xs := fun i hi => by
  obtain ⟨b, o, raw, h1, h2, h3, h4⟩ := h i hi
  exact ⟨b, o, raw, h1, h2, fun j hj => (h3 j hj).mono k, E.mono h4 k⟩

theorem Elems.weak {α : Type} {E : Enc α} {F F' : Foot} {w : World} {a : Option Addr} {xs : List α} (h : Elems E F w a xs) (k : ∀ b e fz, b < w.heap.size → F b e fz → F' b e fz) : Elems E F' w a xs := fun i hi => by
  obtain ⟨b, o, raw, h1, h2, h3, h4⟩ := h i hi
  exact ⟨b, o, raw, h1, h2, fun j hj => (h3 j hj).weak k, E.weak h4 k⟩

/-- A slice. -/
def eList {α : Type} (E : Enc α) : Enc (List α) where
  size := 1
  bytes := 24
  rep F w xs cs := ∃ a n c, cs = [.slice a n c] ∧ n = xs.length ∧ n ≤ c ∧ n * E.bytes ≤ 140737488355328 ∧ (a = none → c = 0) ∧ Elems E F w a xs
  len := fun ⟨_, _, _, h, _⟩ => by rw [h]; rfl
  mono := fun ⟨a, n, c, h1, h2, h3, h4, h0, h5⟩ k => ⟨a, n, c, h1, h2, h3, h4, h0, h5.mono k⟩
  weak := fun ⟨a, n, c, h1, h2, h3, h4, h0, h5⟩ k => ⟨a, n, c, h1, h2, h3, h4, h0, h5.weak k⟩

/-- A slice of ints, and of slices of ints, as one value. -/
def Ints (F : Foot) (w : World) (v : Value) (xs : List Int) : Prop := (eList eInt).rep F w xs [v]
def IntRows (F : Foot) (w : World) (v : Value) (xs : List (List Int)) : Prop := (eList (eList eInt)).rep F w xs [v]

end Go.Proofs.Ytkollnaojpppcaa
